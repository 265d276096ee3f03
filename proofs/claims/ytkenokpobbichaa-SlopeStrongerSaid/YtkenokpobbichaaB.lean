/- Leaves of the slope layer; tests of lists; what is valid. -/
import Derived.Test.YtkenokpobbichaaA
import Derived.Test.YtkenokpobbichaaProg
import Derived.Test.YtkenokpobbichaaChecked
import Derived.Test.YtkenokpobbichaaRows
namespace Go.Proofs.Ytkenokpobbichaa
open Go.RowKit Go.Deep

set_option maxHeartbeats 400000 in
theorem within_any (n lo hi : Int) (w : World) :
    Calls Try.prog 93 #[.int .i64 n, .int .i64 lo, .int .i64 hi] w fun e w' => e = .returned (.bool (inB n lo hi)) ∧ w = w' := by
  by_cases h1 : lo ≤ n <;> by_cases h2 : n ≤ hi <;>
  (go_enter Try.func93, Try.ntmps93
   go_wp2
   go_ret
   exact ⟨by simp [inB, h1, h2], rfl⟩)
set_option maxHeartbeats 400000 in
theorem in_any (n lo hi : Int) (w : World) :
    Calls Try.prog 50 #[.int .i64 n, .int .i64 lo, .int .i64 hi] w fun e w' => e = .returned (.bool (inB n lo hi)) ∧ w = w' := by
  by_cases h1 : lo ≤ n <;> by_cases h2 : n ≤ hi <;>
  (go_enter Try.func50, Try.ntmps50
   go_wp2
   go_ret
   exact ⟨by simp [inB, h1, h2], rfl⟩)
set_option maxHeartbeats 400000 in
theorem low_any (r : Rg) (w : World) : Calls Try.prog 91 #[rgV r] w fun e w' => e = .returned (vi r.lo) ∧ newer w w' := by
  go_enter Try.func91, Try.ntmps91
  go_wp2
  go_ret
  exact ⟨rfl, (Below.refl _ _).alloc (Nat.le_refl _) _⟩
set_option maxHeartbeats 400000 in
theorem high_any (r : Rg) (w : World) : Calls Try.prog 92 #[rgV r] w fun e w' => e = .returned (vi r.hi) ∧ newer w w' := by
  go_enter Try.func92, Try.ntmps92
  go_wp2
  go_ret
  exact ⟨rfl, (Below.refl _ _).alloc (Nat.le_refl _) _⟩
def endG (hi : Bool) : Nat := if hi then 92 else 91
def endI (hi : Bool) (r : Rg) : Int := if hi then r.hi else r.lo
theorem end_any (hi : Bool) (r : Rg) (w : World) : Calls Try.prog (endG hi) #[rgV r] w fun e w' => e = .returned (vi (endI hi r)) ∧ newer w w' := by
  cases hi
  · exact low_any r w
  · exact high_any r w
set_option maxHeartbeats 400000 in
theorem up_any (r : Rg) (most : Int) (w : World) : Calls Try.prog 113 #[rgV r, vi most] w fun e w' => e = .returned (.bool (rgU r most)) ∧ newer w w' := by
  obtain ⟨lo, hi⟩ := r
  unfold rgU
  dsimp only
  by_cases h1 : 0 ≤ lo
  · by_cases h2 : lo ≤ hi
    · by_cases h3 : hi ≤ most
      all_goals
        (go_enter Try.func113, Try.ntmps113
         go_wp2
         go_ret
         exact ⟨ret_bool (by simp <;> omega), (Below.refl _ _).alloc (Nat.le_refl _) _⟩)
    · go_enter Try.func113, Try.ntmps113
      go_wp2
      go_ret
      exact ⟨ret_bool (by simp <;> omega), (Below.refl _ _).alloc (Nat.le_refl _) _⟩
  · go_enter Try.func113, Try.ntmps113
    go_wp2
    go_ret
    exact ⟨ret_bool (by simp <;> omega), (Below.refl _ _).alloc (Nat.le_refl _) _⟩
set_option maxHeartbeats 400000 in
theorem has_any (r : Rg) (n : Int) (w : World) : Calls Try.prog 75 #[rgV r, vi n] w fun e w' => e = .returned (.bool (inB n r.lo r.hi)) ∧ newer w w' := by
  go_enter Try.func75, Try.ntmps75
  go_wp2_with (go_at_call 93; refine (within_any _ _ _ _).mono ?_; rintro e w' ⟨rfl, rfl⟩)
  go_ret
  exact ⟨rfl, (Below.refl _ _).alloc (Nat.le_refl _) _⟩
set_option maxHeartbeats 400000 in
theorem beside_any (a b : Int) (w : World) (ha : -1000000 ≤ a ∧ a ≤ 1000000) (hb : -1000000 ≤ b ∧ b ≤ 1000000) : Calls Try.prog 108 #[vi a, vi b] w fun e w' => e = .returned (.bool (inB (a - b) (-1) 1)) ∧ w = w' := by
  go_enter Try.func108, Try.ntmps108
  go_wp2_with (go_at_call 93; refine (within_any _ _ _ _).mono ?_; rintro e w' ⟨rfl, rfl⟩)
  go_ret
  exact ⟨rfl, rfl⟩
set_option maxHeartbeats 1000000 in
theorem bdValid_any (b : Bd) (w : World) : Calls Try.prog 97 #[bdV b] w fun e w' => e = .returned (.bool (bdB b)) ∧ newer w w' := by
  obtain ⟨drive, normal, fr, co, wa⟩ := b
  unfold bdB
  dsimp only
  have hnw := newer_allocH w (.cells #[vi drive, vi normal, vi fr.lo, vi fr.hi, vi co.lo, vi co.hi, vi wa.lo, vi wa.hi] 104)
  have HN := Lib.hid hnw
  clear hnw
  obtain ⟨q1, h1⟩ : ∃ q, q = inB drive (-100000) 100000 := ⟨_, rfl⟩
  obtain ⟨q2, h2⟩ : ∃ q, q = inB normal 0 100000 := ⟨_, rfl⟩
  obtain ⟨q3, h3⟩ : ∃ q, q = rgU fr 2000 := ⟨_, rfl⟩
  obtain ⟨q4, h4⟩ : ∃ q, q = rgU co 100000 := ⟨_, rfl⟩
  obtain ⟨q5, h5⟩ : ∃ q, q = rgU wa 100000 := ⟨_, rfl⟩
  have H := Lib.hid (And.intro h1 (And.intro h2 (And.intro h3 (And.intro h4 h5))))
  have C1 := Lib.hid (fun W => within_any drive (-100000) 100000 W)
  have C2 := Lib.hid (fun W => within_any normal 0 100000 W)
  have C3 := Lib.hid (fun W => up_any fr 2000 W)
  have C4 := Lib.hid (fun W => up_any co 100000 W)
  have C5 := Lib.hid (fun W => up_any wa 100000 W)
  rw [← h1] at C1 ⊢
  rw [← h2] at C2 ⊢
  rw [← h3] at C3 ⊢
  rw [← h4] at C4 ⊢
  rw [← h5] at C5 ⊢
  clear h1 h2 h3 h4 h5 H
  have hnw := HN.out
  have hbx := Whole.made w 104 #[vi drive, vi normal, vi fr.lo, vi fr.hi, vi co.lo, vi co.hi, vi wa.lo, vi wa.hi]
  have H1 := Lib.hid (And.intro (hnw) (hbx))
  clear hnw hbx HN
  have x0 := H1.out.2.at 0 (v := vi drive) rfl
  have x1 := H1.out.2.at 1 (v := vi normal) rfl
  have x2 := H1.out.2.at 2 (v := vi fr.lo) rfl
  have x3 := H1.out.2.at 3 (v := vi fr.hi) rfl
  have x4 := H1.out.2.at 4 (v := vi co.lo) rfl
  have x5 := H1.out.2.at 5 (v := vi co.hi) rfl
  have x6 := H1.out.2.at 6 (v := vi wa.lo) rfl
  have x7 := H1.out.2.at 7 (v := vi wa.hi) rfl
  go_enter Try.func97, Try.ntmps97
  go_wp2_with fail
  refine (C1.out _).mono ?_
  rintro e w' ⟨rfl, rfl⟩
  cases q1 with
  | false =>
    go_wp2_with fail
    go_ret
    exact ⟨rfl, H1.out.1⟩
  | true =>
    go_wp2_with fail
    refine (C2.out _).mono ?_
    rintro e w' ⟨rfl, rfl⟩
    cases q2 with
    | false =>
      go_wp2_with fail
      go_ret
      exact ⟨rfl, H1.out.1⟩
    | true =>
      go_wp2_with fail
      refine (C3.out _).mono ?_
      rintro e w2 ⟨rfl, hb⟩
      have H3 := Lib.hid (And.intro ((newer_trans H1.out.1 hb)) ((H1.out.2.below hb H1.out.2.lt)))
      clear hb H1 x0 x1 x2 x3 x4 x5 x6 x7
      have x0 := H3.out.2.at 0 (v := vi drive) rfl
      have x1 := H3.out.2.at 1 (v := vi normal) rfl
      have x2 := H3.out.2.at 2 (v := vi fr.lo) rfl
      have x3 := H3.out.2.at 3 (v := vi fr.hi) rfl
      have x4 := H3.out.2.at 4 (v := vi co.lo) rfl
      have x5 := H3.out.2.at 5 (v := vi co.hi) rfl
      have x6 := H3.out.2.at 6 (v := vi wa.lo) rfl
      have x7 := H3.out.2.at 7 (v := vi wa.hi) rfl
      cases q3 with
      | false =>
        go_wp2_with fail
        go_ret
        exact ⟨rfl, H3.out.1⟩
      | true =>
        go_wp2_with fail
        refine (C4.out _).mono ?_
        rintro e w4 ⟨rfl, hb⟩
        have H5 := Lib.hid (And.intro ((newer_trans H3.out.1 hb)) ((H3.out.2.below hb H3.out.2.lt)))
        clear hb H3 x0 x1 x2 x3 x4 x5 x6 x7
        have x0 := H5.out.2.at 0 (v := vi drive) rfl
        have x1 := H5.out.2.at 1 (v := vi normal) rfl
        have x2 := H5.out.2.at 2 (v := vi fr.lo) rfl
        have x3 := H5.out.2.at 3 (v := vi fr.hi) rfl
        have x4 := H5.out.2.at 4 (v := vi co.lo) rfl
        have x5 := H5.out.2.at 5 (v := vi co.hi) rfl
        have x6 := H5.out.2.at 6 (v := vi wa.lo) rfl
        have x7 := H5.out.2.at 7 (v := vi wa.hi) rfl
        cases q4 with
        | false =>
          go_wp2_with fail
          go_ret
          exact ⟨rfl, H5.out.1⟩
        | true =>
          go_wp2_with fail
          refine (C5.out _).mono ?_
          rintro e w6 ⟨rfl, hb⟩
          have H7 := Lib.hid (And.intro ((newer_trans H5.out.1 hb)) ((H5.out.2.below hb H5.out.2.lt)))
          clear hb H5 x0 x1 x2 x3 x4 x5 x6 x7
          go_wp2_with fail
          go_ret
          exact ⟨rfl, H7.out.1⟩

/-! ## Bd -/
set_option maxHeartbeats 400000 in
theorem notBd_any (x : Bd) (rb : Nat) (b : Bool) (w : World) (hr : w.cell? ⟨rb, 0, none⟩ = some (.func (.func 97) #[] #[]))
    (hf : ∀ W, Below w.heap.size w W → Calls Try.prog 97 #[bdV x] W fun e w' => e = .returned (.bool b) ∧ Below W.heap.size W w') :
    Calls Try.prog 112 #[bdV x, .pointer (some ⟨rb, 0, none⟩)] w fun e w' => e = .returned (.bool (!b)) ∧ Below w.heap.size w w' := by
  have HF := Lib.hid hf
  have hlt := World.block_lt_of_cell? w _ hr
  dsimp only at hlt
  clear hf
  go_enter Try.func112, Try.ntmps112
  go_wp2_with (go_at_call 97; refine (HF.out _ ((Below.refl _ _).alloc (Nat.le_refl _) _)).mono ?_; rintro e w' ⟨rfl, hb⟩)
  go_ret
  exact ⟨rfl, below_step ((Below.refl _ _).alloc (Nat.le_refl _) _) hb (by simp)⟩
set_option maxHeartbeats 400000 in
theorem idxBd_any (l : List Bd) (p : Bd → Bool) (cp rb : Nat) (A : Option Addr) (w : World) (hn : l.length ≤ 1000) (hrow : Row bdL 8 w w.heap.size A l)
    (hf : ∀ c ∈ l, ∀ W, Below w.heap.size w W → Calls Try.prog 112 #[bdV c, .pointer (some ⟨rb, 0, none⟩)] W fun e w' => e = .returned (.bool (p c)) ∧ Below W.heap.size W w') :
    Calls Try.prog 123 #[.slice A l.length cp, .func (.func 112) #[] #[.pointer (some ⟨rb, 0, none⟩)]] w fun e w' => e = .returned (.int .i64 (idx p l)) ∧ Below w.heap.size w w' := by
  have HF := Lib.hid hf
  clear hf
  obtain ⟨n, hnl⟩ : ∃ n, n = l.length := ⟨_, rfl⟩
  rw [← hnl] at hn ⊢
  have HN := Lib.hid hnl
  clear hnl
  go_enter Try.func123, Try.ntmps123
  go_wp2
  go_loopw [4, 5, 8] (fun _ _ i wr => ∃ k : Nat, k ≤ n ∧ i = .int .i64 k ∧ Below w.heap.size w wr ∧ early p l k) (fun _ _ i _ => n - (intOf i).toNat)
  case atStart => exact ⟨0, Nat.zero_le _, rfl, Below.refl _ _, early_zero _ _⟩
  case round =>
    obtain ⟨k, hk, rfl, hbw, he⟩ := hrel
    have HE := Lib.hid he
    clear he
    by_cases hlt : k < n
    · obtain ⟨c, hc⟩ := get_of_lt (l := l) (k := k) (by have := HN.out; omega)
      obtain ⟨b, off, rfl, hb, h0, h1, h2, h3, h4, h5, h6, h7⟩ := row8 (hrow.below hbw) hc
      have HC := Lib.hid hc
      clear hc
      cases hp : p c
      · go_wp2_with (go_at_call 112; refine (HF.out c (List.mem_of_getElem? HC.out) _ hbw).mono ?_; rintro e w' ⟨rfl, hb2⟩)
        go_roundw
        case rel => exact ⟨k + 1, by omega, by go_num, below_next hbw hb2, early_succ HE.out HC.out hp⟩
        case measure => simp [intOf]; omega
      · go_wp2_with (go_at_call 112; refine (HF.out c (List.mem_of_getElem? HC.out) _ hbw).mono ?_; rintro e w' ⟨rfl, hb2⟩)
        go_ret
        exact ⟨ret_int (idx_here p l k c HC.out hp HE.out).symm, below_next hbw hb2⟩
    · go_wp2_with fail
      go_ret
      have hkn : k = l.length := by have := HN.out; omega
      exact ⟨ret_int (idx_none p l (hkn ▸ HE.out)).symm, hbw⟩
set_option maxHeartbeats 400000 in
theorem containsBd_any (l : List Bd) (p : Bd → Bool) (cp rb : Nat) (A : Option Addr) (w : World) (hn : l.length ≤ 1000) (hrow : Row bdL 8 w w.heap.size A l)
    (hf : ∀ c ∈ l, ∀ W, Below w.heap.size w W → Calls Try.prog 112 #[bdV c, .pointer (some ⟨rb, 0, none⟩)] W fun e w' => e = .returned (.bool (p c)) ∧ Below W.heap.size W w') :
    Calls Try.prog 111 #[.slice A l.length cp, .func (.func 112) #[] #[.pointer (some ⟨rb, 0, none⟩)]] w fun e w' => e = .returned (.bool (decide (0 ≤ idx p l))) ∧ Below w.heap.size w w' := by
  have HF := Lib.hid hf
  clear hf
  go_enter Try.func111, Try.ntmps111
  go_wp2_with (go_at_call 123; refine (idxBd_any l p cp rb A _ hn hrow HF.out).mono ?_; rintro e w' ⟨rfl, hb2⟩)
  go_ret
  exact ⟨rfl, hb2⟩
set_option maxHeartbeats 400000 in
theorem allBd_any (l : List Bd) (p : Bd → Bool) (cp : Nat) (A : Option Addr) (w : World) (hn : l.length ≤ 1000) (hrow : Row bdL 8 w w.heap.size A l)
    (hf : ∀ c ∈ l, ∀ W, Below w.heap.size w W → Calls Try.prog 97 #[bdV c] W fun e w' => e = .returned (.bool (p c)) ∧ Below W.heap.size W w') :
    Calls Try.prog 96 #[.slice A l.length cp, .func (.func 97) #[] #[]] w fun e w' => e = .returned (.bool (l.all p)) ∧ Below w.heap.size w w' := by
  have hX := containsBd_any l (fun c => !p c) cp w.heap.size A (w.alloc (.cells #[.func (.func 97) #[] #[]] 143)) hn (hrow_ok hrow _) (fun c hc W hW => notBd_any c w.heap.size (p c) W (keep_cell (Whole.at (Whole.made w 143 #[.func (.func 97) #[] #[]]) 0 rfl) hW) fun W' hW' => hf c hc W' (below_next (below_next ((Below.refl _ _).alloc (Nat.le_refl _) _) hW) hW'))
  have HX := Lib.hid hX
  clear hX hf
  go_enter Try.func96, Try.ntmps96
  go_wp2_with (go_at_call 111; refine (HX.out).mono ?_; rintro e w' ⟨rfl, hb2⟩)
  go_ret
  exact ⟨ret_bool (idx_all p l), below_next ((Below.refl _ _).alloc (Nat.le_refl _) _) hb2⟩

/-! ## Cl -/
set_option maxHeartbeats 400000 in
theorem notCl_any (x : Cl) (rb : Nat) (b : Bool) (w : World) (nb : Nat) (hr : w.cell? ⟨rb, 0, none⟩ = some (.func (.func 95) #[] #[.pointer (some ⟨nb, 0, none⟩)]))
    (hf : ∀ W, Below w.heap.size w W → Calls Try.prog 95 #[clV x, .pointer (some ⟨nb, 0, none⟩)] W fun e w' => e = .returned (.bool b) ∧ Below W.heap.size W w') :
    Calls Try.prog 110 #[clV x, .pointer (some ⟨rb, 0, none⟩)] w fun e w' => e = .returned (.bool (!b)) ∧ Below w.heap.size w w' := by
  have HF := Lib.hid hf
  have hlt := World.block_lt_of_cell? w _ hr
  dsimp only at hlt
  clear hf
  go_enter Try.func110, Try.ntmps110
  go_wp2_with (go_at_call 95; refine (HF.out _ (Below.refl _ _)).mono ?_; rintro e w' ⟨rfl, hb⟩)
  go_ret
  exact ⟨rfl, hb⟩
set_option maxHeartbeats 400000 in
theorem idxCl_any (l : List Cl) (p : Cl → Bool) (cp rb : Nat) (A : Option Addr) (w : World) (hn : l.length ≤ 1000) (hrow : Row clL 1 w w.heap.size A l)
    (hf : ∀ c ∈ l, ∀ W, Below w.heap.size w W → Calls Try.prog 110 #[clV c, .pointer (some ⟨rb, 0, none⟩)] W fun e w' => e = .returned (.bool (p c)) ∧ Below W.heap.size W w') :
    Calls Try.prog 122 #[.slice A l.length cp, .func (.func 110) #[] #[.pointer (some ⟨rb, 0, none⟩)]] w fun e w' => e = .returned (.int .i64 (idx p l)) ∧ Below w.heap.size w w' := by
  have HF := Lib.hid hf
  clear hf
  obtain ⟨n, hnl⟩ : ∃ n, n = l.length := ⟨_, rfl⟩
  rw [← hnl] at hn ⊢
  have HN := Lib.hid hnl
  clear hnl
  go_enter Try.func122, Try.ntmps122
  go_wp2
  go_loopw [4, 5, 8] (fun _ _ i wr => ∃ k : Nat, k ≤ n ∧ i = .int .i64 k ∧ Below w.heap.size w wr ∧ early p l k) (fun _ _ i _ => n - (intOf i).toNat)
  case atStart => exact ⟨0, Nat.zero_le _, rfl, Below.refl _ _, early_zero _ _⟩
  case round =>
    obtain ⟨k, hk, rfl, hbw, he⟩ := hrel
    have HE := Lib.hid he
    clear he
    by_cases hlt : k < n
    · obtain ⟨c, hc⟩ := get_of_lt (l := l) (k := k) (by have := HN.out; omega)
      obtain ⟨b, off, rfl, hb, h0⟩ := rowC (hrow.below hbw) hc
      have HC := Lib.hid hc
      clear hc
      cases hp : p c
      · go_wp2_with (go_at_call 110; refine (HF.out c (List.mem_of_getElem? HC.out) _ hbw).mono ?_; rintro e w' ⟨rfl, hb2⟩)
        go_roundw
        case rel => exact ⟨k + 1, by omega, by go_num, below_next hbw hb2, early_succ HE.out HC.out hp⟩
        case measure => simp [intOf]; omega
      · go_wp2_with (go_at_call 110; refine (HF.out c (List.mem_of_getElem? HC.out) _ hbw).mono ?_; rintro e w' ⟨rfl, hb2⟩)
        go_ret
        exact ⟨ret_int (idx_here p l k c HC.out hp HE.out).symm, below_next hbw hb2⟩
    · go_wp2_with fail
      go_ret
      have hkn : k = l.length := by have := HN.out; omega
      exact ⟨ret_int (idx_none p l (hkn ▸ HE.out)).symm, hbw⟩
set_option maxHeartbeats 400000 in
theorem containsCl_any (l : List Cl) (p : Cl → Bool) (cp rb : Nat) (A : Option Addr) (w : World) (hn : l.length ≤ 1000) (hrow : Row clL 1 w w.heap.size A l)
    (hf : ∀ c ∈ l, ∀ W, Below w.heap.size w W → Calls Try.prog 110 #[clV c, .pointer (some ⟨rb, 0, none⟩)] W fun e w' => e = .returned (.bool (p c)) ∧ Below W.heap.size W w') :
    Calls Try.prog 109 #[.slice A l.length cp, .func (.func 110) #[] #[.pointer (some ⟨rb, 0, none⟩)]] w fun e w' => e = .returned (.bool (decide (0 ≤ idx p l))) ∧ Below w.heap.size w w' := by
  have HF := Lib.hid hf
  clear hf
  go_enter Try.func109, Try.ntmps109
  go_wp2_with (go_at_call 122; refine (idxCl_any l p cp rb A _ hn hrow HF.out).mono ?_; rintro e w' ⟨rfl, hb2⟩)
  go_ret
  exact ⟨rfl, hb2⟩
set_option maxHeartbeats 400000 in
theorem allCl_any (l : List Cl) (p : Cl → Bool) (cp : Nat) (A : Option Addr) (w : World) (nb : Nat) (hn : l.length ≤ 1000) (hrow : Row clL 1 w w.heap.size A l)
    (hf : ∀ c ∈ l, ∀ W, Below w.heap.size w W → Calls Try.prog 95 #[clV c, .pointer (some ⟨nb, 0, none⟩)] W fun e w' => e = .returned (.bool (p c)) ∧ Below W.heap.size W w') :
    Calls Try.prog 94 #[.slice A l.length cp, .func (.func 95) #[] #[.pointer (some ⟨nb, 0, none⟩)]] w fun e w' => e = .returned (.bool (l.all p)) ∧ Below w.heap.size w w' := by
  have hX := containsCl_any l (fun c => !p c) cp w.heap.size A (w.alloc (.cells #[.func (.func 95) #[] #[.pointer (some ⟨nb, 0, none⟩)]] 144)) hn (hrow_ok hrow _) (fun c hc W hW => notCl_any c w.heap.size (p c) W nb (keep_cell (Whole.at (Whole.made w 144 #[.func (.func 95) #[] #[.pointer (some ⟨nb, 0, none⟩)]]) 0 rfl) hW) fun W' hW' => hf c hc W' (below_next (below_next ((Below.refl _ _).alloc (Nat.le_refl _) _) hW) hW'))
  have HX := Lib.hid hX
  clear hX hf
  go_enter Try.func94, Try.ntmps94
  go_wp2_with (go_at_call 109; refine (HX.out).mono ?_; rintro e w' ⟨rfl, hb2⟩)
  go_ret
  exact ⟨ret_bool (idx_all p l), below_next ((Below.refl _ _).alloc (Nat.le_refl _) _) hb2⟩

/-- No list of a slope is very long. -/
structure SmFew (s : Sm) : Prop where
  cs : s.cs.length ≤ 1000
  bd : ∀ x ∈ s.cs, x.beds.length ≤ 1000
set_option maxHeartbeats 1000000 in
theorem colValid_any (x : Cl) (n : Nat) (nb : Nat) (w : World) (hn : x.beds.length ≤ 1000) (hc : w.cell? ⟨nb, 0, none⟩ = some (vi n)) (hrow : Row bdL 8 w w.heap.size x.a x.beds) :
    Calls Try.prog 95 #[clV x, .pointer (some ⟨nb, 0, none⟩)] w fun e w' => e = .returned (.bool (decide (x.beds.length = n) && x.beds.all bdB)) ∧ newer w w' := by
  have HA := Lib.hid (allBd_any x.beds bdB x.cp x.a w hn hrow fun c _ W _ => bdValid_any c W)
  by_cases h : x.beds.length = n
  · have e1 : ((x.beds.length : Int) == n) = true := by rw [beq_iff_eq]; omega
    rw [decide_eq_true h]
    clear h hn
    go_enter Try.func95, Try.ntmps95
    go_wp2_with fail
    refine (HA.out).mono ?_
    rintro e w1 ⟨rfl, hb⟩
    have HB := Lib.hid hb
    clear hb HA
    go_wp2_with fail
    go_ret
    exact ⟨rfl, HB.out⟩
  · have e1 : ((x.beds.length : Int) == n) = false := by rw [beq_eq_false_iff_ne]; omega
    rw [decide_eq_false h]
    clear h hn
    go_enter Try.func95, Try.ntmps95
    go_wp2_with fail
    go_ret
    exact ⟨rfl, Below.refl _ _⟩
theorem sd_n {s : Sm} {x : Cl} (h : s.cs[0]? = some x) : s.sd.n = x.beds.length := by
  unfold Sm.sd Sd.n
  cases hs : s.cs with
  | nil => rw [hs] at h; simp at h
  | cons y l =>
    rw [hs] at h
    have e : y = x := by simpa using h
    subst e
    rfl
theorem sd_len (s : Sm) : s.sd.cols.length = s.cs.length := by simp [Sm.sd]
theorem sd_all (s : Sm) (p : List Bd → Bool) : s.sd.cols.all p = s.cs.all fun x => p x.beds := by simp [Sm.sd, List.all_map, Function.comp_def]
set_option maxRecDepth 100000 in
set_option maxHeartbeats 2000000 in
theorem valid_any (s : Sm) (w : World) (hok : SmOk s w) (few : SmFew s) : Calls Try.prog 64 #[smV s] w fun e w' => e = .returned (.bool (slopeB s.sd)) ∧ newer w w' := by
  have hnw := newer_allocH w (.cells (smC s) 37)
  have hbx := Whole.made w 37 (smC s)
  have HOK := Lib.hid hok
  have HF := Lib.hid few
  unfold slopeB
  rw [sd_len, sd_all, show s.sd.least = s.least from rfl]
  have C1 := Lib.hid (fun W => within_any s.cs.length 1 12 W)
  have C3 := Lib.hid (fun W => within_any s.least 1 4 W)
  obtain ⟨q1, h1⟩ : ∃ q, q = inB s.cs.length 1 12 := ⟨_, rfl⟩
  obtain ⟨q3, h3⟩ : ∃ q, q = inB s.least 1 4 := ⟨_, rfl⟩
  have HQ1 := Lib.hid h1
  rw [← h1] at C1 ⊢
  rw [← h3] at C3 ⊢
  clear h1 h3 hok few
  have H1 := Lib.hid (And.intro (hnw) (hbx))
  clear hnw hbx
  have x0 := H1.out.2.at 0 (v := .slice s.a s.cs.length s.c) rfl
  have x1 := H1.out.2.at 1 (v := vi s.least) rfl
  cases q1 with
  | false =>
    go_enter Try.func64, Try.ntmps64
    go_wp2_with fail
    refine (C1.out _).mono ?_
    rintro e w' ⟨rfl, rfl⟩
    go_wp2_with fail
    go_ret
    exact ⟨rfl, H1.out.1⟩
  | true =>
    have hl1 : inB s.cs.length 1 12 = true := HQ1.out.symm
    simp only [inB, Bool.and_eq_true, decide_eq_true_eq] at hl1
    obtain ⟨x, hx⟩ := get_of_lt (l := s.cs) (k := 0) (by omega)
    have HX := Lib.hid hx
    rw [sd_n hx]
    have hne : ¬ (s.cs = []) := by intro h; rw [h] at hl1; simp at hl1
    have hl0 : (0 : Int) < s.cs.length := by omega
    have C2 := Lib.hid (fun W => within_any x.beds.length 1 5 W)
    obtain ⟨q2, h2⟩ : ∃ q, q = inB x.beds.length 1 5 := ⟨_, rfl⟩
    rw [← h2] at C2 ⊢
    clear h2 hx hl1
    obtain ⟨b2, o2, e2, _, cx⟩ := rowC (HOK.out.next H1.out.1).cs HX.out
    rw [e2] at x0
    simp only [Nat.add_zero] at cx
    clear hne e2
    go_enter Try.func64, Try.ntmps64
    go_wp2_with fail
    refine (C1.out _).mono ?_
    rintro e w' ⟨rfl, rfl⟩
    go_wp2_with fail
    refine (C2.out _).mono ?_
    rintro e w' ⟨rfl, rfl⟩
    cases q2 with
    | false =>
      go_wp2_with fail
      go_ret
      exact ⟨rfl, H1.out.1⟩
    | true =>
      go_wp2_with fail
      refine (C3.out _).mono ?_
      rintro e w' ⟨rfl, rfl⟩
      cases q3 with
      | false =>
        go_wp2_with fail
        go_ret
        exact ⟨rfl, H1.out.1⟩
      | true =>
        go_upto_region 4 with fail
        refine genQ (fun X => newer w X ∧ Whole X w.heap.size 37 (smC s) ∧ Whole X (w.heap.size + 1) 3 #[vi x.beds.length]) ⟨(newer_trans H1.out.1 (newer_allocH (w.alloc (.cells (smC s) 37)) (.cells #[vi x.beds.length] 3))), (H1.out.2.below (newer_allocH (w.alloc (.cells (smC s) 37)) (.cells #[vi x.beds.length] 3)) H1.out.2.lt), (by have h := Whole.made (w.alloc (.cells (smC s) 37)) 3 #[vi x.beds.length]; rw [World.size_alloc] at h; exact h)⟩ ?_
        obtain ⟨nb, hnb⟩ : ∃ nb, nb = w.heap.size + 1 := ⟨_, rfl⟩
        rw [← hnb]
        clear hnb
        rintro w2 ⟨g0_, g1_, g2_⟩
        have H3 := Lib.hid (And.intro (g0_) (And.intro (g1_) (g2_)))
        clear g0_ g1_ g2_ H1 x0 x1 cx hl0
        have x0 := H3.out.2.1.at 0 (v := .slice s.a s.cs.length s.c) rfl
        have x1 := H3.out.2.1.at 1 (v := vi s.least) rfl
        have HAL := Lib.hid (allCl_any s.cs (fun z => decide (z.beds.length = x.beds.length) && z.beds.all bdB) s.c s.a w2 nb HF.out.cs (HOK.out.next H3.out.1).cs fun z hz V hV => colValid_any z x.beds.length nb V (HF.out.bd z hz) ((H3.out.2.2.below hV H3.out.2.2.lt).at 0 rfl) ((HOK.out.next (newer_trans H3.out.1 hV)).bd z hz))
        go_wp2_with fail
        refine (HAL.out).mono ?_
        rintro e w4 ⟨rfl, hb⟩
        have H5 := Lib.hid (And.intro ((newer_trans H3.out.1 hb)) (And.intro ((H3.out.2.1.below hb H3.out.2.1.lt)) ((H3.out.2.2.below hb H3.out.2.2.lt))))
        clear hb HAL H3 x0 x1
        go_wp2_with fail
        go_ret
        exact ⟨rfl, H5.out.1⟩
set_option maxHeartbeats 1000000 in
theorem check_any (s : Sm) (w : World) (hok : SmOk s w) (few : SmFew s) : Calls Try.prog 46 #[smV s] w fun e w' => e = .returned (vi (if slopeB s.sd then 0 else 1)) ∧ newer w w' := by
  have hnw := newer_allocH w (.cells (smC s) 37)
  have hbx := Whole.made w 37 (smC s)
  have HV := Lib.hid (valid_any s _ (hok.next hnw) few)
  have HN := Lib.hid hnw
  have x0 := hbx.at 0 (v := .slice s.a s.cs.length s.c) rfl
  have x1 := hbx.at 1 (v := vi s.least) rfl
  clear hnw hbx
  obtain ⟨q, hq⟩ : ∃ q, q = slopeB s.sd := ⟨_, rfl⟩
  rw [← hq] at HV ⊢
  clear hq
  go_enter Try.func46, Try.ntmps46
  go_wp2_with fail
  refine (HV.out).mono ?_
  rintro e w1 ⟨rfl, hb⟩
  have HB := Lib.hid (newer_trans HN.out hb)
  clear hb HV
  cases q with
  | false =>
    go_wp2_with fail
    go_ret
    exact ⟨rfl, HB.out⟩
  | true =>
    go_wp2_with fail
    go_ret
    exact ⟨rfl, HB.out⟩

end Go.Proofs.Ytkenokpobbichaa
