/- What the last text of this chain needs: B, C, D, E, F, H, L7, JA. -/
import Derived.Test.YtcdhhfgpdokkoaaZH05
namespace Go.Proofs.Ytcdhhfgpdokkoaa
section
open Go.RowKit Go.Deep
set_option maxHeartbeats 400000 in
theorem within_any (n lo hi : Int) (w : World) :
  Calls Try.prog 44 #[.int .i64 n, .int .i64 lo, .int .i64 hi] w fun e w' => e = .returned (.bool (inB n lo hi)) /\ w = w' := by
 by_cases h1 : lo <= n <;> by_cases h2 : n <= hi <;>
 (go_enter Try.func44, Try.ntmps44
  go_wp2
  go_ret
  exact ⟨by simp [inB, h1, h2], rfl⟩)
set_option maxHeartbeats 400000 in
theorem in_any (n lo hi : Int) (w : World) :
  Calls Try.prog 20 #[.int .i64 n, .int .i64 lo, .int .i64 hi] w fun e w' => e = .returned (.bool (inB n lo hi)) /\ w = w' := by
 by_cases h1 : lo <= n <;> by_cases h2 : n <= hi <;>
 (go_enter Try.func20, Try.ntmps20
  go_wp2
  go_ret
  exact ⟨by simp [inB, h1, h2], rfl⟩)
set_option maxHeartbeats 400000 in
theorem low_any (r : Rg) (w : World) : Calls Try.prog 75 #[rgV r] w fun e w' => e = .returned (vi r.lo) /\ newer w w' := by
 go_enter Try.func75, Try.ntmps75
 go_wp2
 go_ret
 exact ⟨rfl, (Below.refl _ _).alloc (Nat.le_refl _) _⟩
set_option maxHeartbeats 400000 in
theorem high_any (r : Rg) (w : World) : Calls Try.prog 76 #[rgV r] w fun e w' => e = .returned (vi r.hi) /\ newer w w' := by
 go_enter Try.func76, Try.ntmps76
 go_wp2
 go_ret
 exact ⟨rfl, (Below.refl _ _).alloc (Nat.le_refl _) _⟩
def endG (hi : Bool) : Nat := if hi then 76 else 75
def endI (hi : Bool) (r : Rg) : Int := if hi then r.hi else r.lo
theorem end_any (hi : Bool) (r : Rg) (w : World) : Calls Try.prog (endG hi) #[rgV r] w fun e w' => e = .returned (vi (endI hi r)) /\ newer w w' := by
 cases hi
 ·exact low_any r w
 ·exact high_any r w
set_option maxHeartbeats 400000 in
theorem up_any (r : Rg) (most : Int) (w : World) : Calls Try.prog 73 #[rgV r, vi most] w fun e w' => e = .returned (.bool (rgU r most)) /\ newer w w' := by
 obtain ⟨lo, hi⟩ := r
 unfold rgU
 dsimp only
 by_cases h1 : 0 <= lo
 ·by_cases h2 : lo <= hi
  ·by_cases h3 : hi <= most
   all_goals
    (go_enter Try.func73, Try.ntmps73
     go_wp2
     go_ret
     exact ⟨ret_bool (by simp <;> omega), (Below.refl _ _).alloc (Nat.le_refl _) _⟩)
  ·go_enter Try.func73, Try.ntmps73
   go_wp2
   go_ret
   exact ⟨ret_bool (by simp <;> omega), (Below.refl _ _).alloc (Nat.le_refl _) _⟩
 ·go_enter Try.func73, Try.ntmps73
  go_wp2
  go_ret
  exact ⟨ret_bool (by simp <;> omega), (Below.refl _ _).alloc (Nat.le_refl _) _⟩
set_option maxHeartbeats 400000 in
theorem has_any (r : Rg) (n : Int) (w : World) : Calls Try.prog 34 #[rgV r, vi n] w fun e w' => e = .returned (.bool (inB n r.lo r.hi)) /\ newer w w' := by
 go_enter Try.func34, Try.ntmps34
 go_wp2_with (go_at_call 44; refine (within_any _ _ _ _).mono ?_; rintro e w' ⟨rfl, rfl⟩)
 go_ret
 exact ⟨rfl, (Below.refl _ _).alloc (Nat.le_refl _) _⟩
set_option maxHeartbeats 400000 in
theorem beside_any (a b : Int) (w : World) (ha : -1000000 <= a /\ a <= 1000000) (hb : -1000000 <= b /\ b <= 1000000) : Calls Try.prog 92 #[vi a, vi b] w fun e w' => e = .returned (.bool (inB (a - b) (-1) 1)) /\ w = w' := by
 go_enter Try.func92, Try.ntmps92
 go_wp2_with (go_at_call 44; refine (within_any _ _ _ _).mono ?_; rintro e w' ⟨rfl, rfl⟩)
 go_ret
 exact ⟨rfl, rfl⟩
set_option maxHeartbeats 1000000 in
theorem bdValid_any (b : Bd) (w : World) : Calls Try.prog 48 #[bdV b] w fun e w' => e = .returned (.bool (bdB b)) /\ newer w w' := by
 obtain ⟨drive, normal, fr, co, wa⟩ := b
 unfold bdB
 dsimp only
 have hnw := newer_allocH w (.cells #[vi drive, vi normal, vi fr.lo, vi fr.hi, vi co.lo, vi co.hi, vi wa.lo, vi wa.hi] 93)
 have HN := Lib.hid hnw
 clear hnw
 obtain ⟨q1, h1⟩ : ∃ q, q = inB drive (-100000) 100000 := ⟨_, rfl⟩
 obtain ⟨q2, h2⟩ : ∃ q, q = inB normal 0 100000 := ⟨_, rfl⟩
 obtain ⟨q3, h3⟩ : ∃ q, q = rgU fr 2000 := ⟨_, rfl⟩
 obtain ⟨q4, h4⟩ : ∃ q, q = rgU co 100000 := ⟨_, rfl⟩
 obtain ⟨q5, h5⟩ : ∃ q, q = rgU wa 100000 := ⟨_, rfl⟩
 have H := Lib.hid (And.intro h1 (And.intro h2 (And.intro h3 (And.intro h4 h5))))
 have C1 := Lib.hid (fun W => within_any drive (-100000) 100000 W)
 have C2 := Lib.hid (fun W => within_any normal 0 100000 W)
 have C3 := Lib.hid (fun W => up_any fr 2000 W)
 have C4 := Lib.hid (fun W => up_any co 100000 W)
 have C5 := Lib.hid (fun W => up_any wa 100000 W)
 rw [<- h1] at C1 ⊢
 rw [<- h2] at C2 ⊢
 rw [<- h3] at C3 ⊢
 rw [<- h4] at C4 ⊢
 rw [<- h5] at C5 ⊢
 clear h1 h2 h3 h4 h5 H
 have hnw := HN.out
 have hbx := Whole.made w 93 #[vi drive, vi normal, vi fr.lo, vi fr.hi, vi co.lo, vi co.hi, vi wa.lo, vi wa.hi]
 have H1 := Lib.hid (And.intro (hnw) (hbx))
 clear hnw hbx HN
 have x0 := H1.out.2.at 0 (v := vi drive) rfl
 have x1 := H1.out.2.at 1 (v := vi normal) rfl
 have x2 := H1.out.2.at 2 (v := vi fr.lo) rfl
 have x3 := H1.out.2.at 3 (v := vi fr.hi) rfl
 have x4 := H1.out.2.at 4 (v := vi co.lo) rfl
 have x5 := H1.out.2.at 5 (v := vi co.hi) rfl
 have x6 := H1.out.2.at 6 (v := vi wa.lo) rfl
 have x7 := H1.out.2.at 7 (v := vi wa.hi) rfl
 go_enter Try.func48, Try.ntmps48
 go_wp2_with fail
 refine (C1.out _).mono ?_
 rintro e w' ⟨rfl, rfl⟩
 cases q1 with
 | false =>
  go_wp2_with fail
  go_ret
  exact ⟨rfl, H1.out.1⟩
 | true =>
  go_wp2_with fail
  refine (C2.out _).mono ?_
  rintro e w' ⟨rfl, rfl⟩
  cases q2 with
  | false =>
   go_wp2_with fail
   go_ret
   exact ⟨rfl, H1.out.1⟩
  | true =>
   go_wp2_with fail
   refine (C3.out _).mono ?_
   rintro e w2 ⟨rfl, hb⟩
   have H3 := Lib.hid (And.intro ((newer_trans H1.out.1 hb)) ((H1.out.2.below hb H1.out.2.lt)))
   clear hb H1 x0 x1 x2 x3 x4 x5 x6 x7
   have x0 := H3.out.2.at 0 (v := vi drive) rfl
   have x1 := H3.out.2.at 1 (v := vi normal) rfl
   have x2 := H3.out.2.at 2 (v := vi fr.lo) rfl
   have x3 := H3.out.2.at 3 (v := vi fr.hi) rfl
   have x4 := H3.out.2.at 4 (v := vi co.lo) rfl
   have x5 := H3.out.2.at 5 (v := vi co.hi) rfl
   have x6 := H3.out.2.at 6 (v := vi wa.lo) rfl
   have x7 := H3.out.2.at 7 (v := vi wa.hi) rfl
   cases q3 with
   | false =>
    go_wp2_with fail
    go_ret
    exact ⟨rfl, H3.out.1⟩
   | true =>
    go_wp2_with fail
    refine (C4.out _).mono ?_
    rintro e w4 ⟨rfl, hb⟩
    have H5 := Lib.hid (And.intro ((newer_trans H3.out.1 hb)) ((H3.out.2.below hb H3.out.2.lt)))
    clear hb H3 x0 x1 x2 x3 x4 x5 x6 x7
    have x0 := H5.out.2.at 0 (v := vi drive) rfl
    have x1 := H5.out.2.at 1 (v := vi normal) rfl
    have x2 := H5.out.2.at 2 (v := vi fr.lo) rfl
    have x3 := H5.out.2.at 3 (v := vi fr.hi) rfl
    have x4 := H5.out.2.at 4 (v := vi co.lo) rfl
    have x5 := H5.out.2.at 5 (v := vi co.hi) rfl
    have x6 := H5.out.2.at 6 (v := vi wa.lo) rfl
    have x7 := H5.out.2.at 7 (v := vi wa.hi) rfl
    cases q4 with
    | false =>
     go_wp2_with fail
     go_ret
     exact ⟨rfl, H5.out.1⟩
    | true =>
     go_wp2_with fail
     refine (C5.out _).mono ?_
     rintro e w6 ⟨rfl, hb⟩
     have H7 := Lib.hid (And.intro ((newer_trans H5.out.1 hb)) ((H5.out.2.below hb H5.out.2.lt)))
     clear hb H5 x0 x1 x2 x3 x4 x5 x6 x7
     go_wp2_with fail
     go_ret
     exact ⟨rfl, H7.out.1⟩
set_option maxHeartbeats 400000 in
theorem notBd_any (x : Bd) (rb : Nat) (b : Bool) (w : World) (hr : w.cell? ⟨rb, 0, none⟩ = some (.func (.func 48) #[] #[]))
  (hf : ∀ W, Below w.heap.size w W -> Calls Try.prog 48 #[bdV x] W fun e w' => e = .returned (.bool b) /\ Below W.heap.size W w') :
  Calls Try.prog 72 #[bdV x, .pointer (some ⟨rb, 0, none⟩)] w fun e w' => e = .returned (.bool (!b)) /\ Below w.heap.size w w' := by
 have HF := Lib.hid hf
 have hlt := World.block_lt_of_cell? w _ hr
 dsimp only at hlt
 clear hf
 go_enter Try.func72, Try.ntmps72
 go_wp2_with (go_at_call 48; refine (HF.out _ ((Below.refl _ _).alloc (Nat.le_refl _) _)).mono ?_; rintro e w' ⟨rfl, hb⟩)
 go_ret
 exact ⟨rfl, below_step ((Below.refl _ _).alloc (Nat.le_refl _) _) hb (by simp)⟩
set_option maxHeartbeats 400000 in
theorem idxBd_any (l : List Bd) (p : Bd -> Bool) (cp rb : Nat) (A : Option Addr) (w : World) (hn : l.length <= 1000) (hrow : Row bdL 8 w w.heap.size A l)
  (hf : ∀ c ∈ l, ∀ W, Below w.heap.size w W -> Calls Try.prog 72 #[bdV c, .pointer (some ⟨rb, 0, none⟩)] W fun e w' => e = .returned (.bool (p c)) /\ Below W.heap.size W w') :
  Calls Try.prog 94 #[.slice A l.length cp, .func (.func 72) #[] #[.pointer (some ⟨rb, 0, none⟩)]] w fun e w' => e = .returned (.int .i64 (idx p l)) /\ Below w.heap.size w w' := by
 have HF := Lib.hid hf
 clear hf
 obtain ⟨n, hnl⟩ : ∃ n, n = l.length := ⟨_, rfl⟩
 rw [<- hnl] at hn ⊢
 have HN := Lib.hid hnl
 clear hnl
 go_enter Try.func94, Try.ntmps94
 go_wp2
 go_loopw [4, 5, 8] (fun _ _ i wr => ∃ k : Nat, k <= n /\ i = .int .i64 k /\ Below w.heap.size w wr /\ early p l k) (fun _ _ i _ => n - (intOf i).toNat)
 case atStart => exact ⟨0, Nat.zero_le _, rfl, Below.refl _ _, early_zero _ _⟩
 case round =>
  obtain ⟨k, hk, rfl, hbw, he⟩ := hrel
  have HE := Lib.hid he
  clear he
  by_cases hlt : k < n
  ·obtain ⟨c, hc⟩ := get_of_lt (l := l) (k := k) (by have := HN.out; omega)
   obtain ⟨b, off, rfl, hb, h0, h1, h2, h3, h4, h5, h6, h7⟩ := row8 (hrow.below hbw) hc
   have HC := Lib.hid hc
   clear hc
   cases hp : p c
   ·go_wp2_with (go_at_call 72; refine (HF.out c (List.mem_of_getElem? HC.out) _ hbw).mono ?_; rintro e w' ⟨rfl, hb2⟩)
    go_roundw
    case rel => exact ⟨k + 1, by omega, by go_num, below_next hbw hb2, early_succ HE.out HC.out hp⟩
    case measure => simp [intOf]; omega
   ·go_wp2_with (go_at_call 72; refine (HF.out c (List.mem_of_getElem? HC.out) _ hbw).mono ?_; rintro e w' ⟨rfl, hb2⟩)
    go_ret
    exact ⟨ret_int (idx_here p l k c HC.out hp HE.out).symm, below_next hbw hb2⟩
  ·go_wp2_with fail
   go_ret
   have hkn : k = l.length := by have := HN.out; omega
   exact ⟨ret_int (idx_none p l (hkn ▸ HE.out)).symm, hbw⟩
set_option maxHeartbeats 400000 in
theorem containsBd_any (l : List Bd) (p : Bd -> Bool) (cp rb : Nat) (A : Option Addr) (w : World) (hn : l.length <= 1000) (hrow : Row bdL 8 w w.heap.size A l)
  (hf : ∀ c ∈ l, ∀ W, Below w.heap.size w W -> Calls Try.prog 72 #[bdV c, .pointer (some ⟨rb, 0, none⟩)] W fun e w' => e = .returned (.bool (p c)) /\ Below W.heap.size W w') :
  Calls Try.prog 71 #[.slice A l.length cp, .func (.func 72) #[] #[.pointer (some ⟨rb, 0, none⟩)]] w fun e w' => e = .returned (.bool (decide (0 <= idx p l))) /\ Below w.heap.size w w' := by
 have HF := Lib.hid hf
 clear hf
 go_enter Try.func71, Try.ntmps71
 go_wp2_with (go_at_call 94; refine (idxBd_any l p cp rb A _ hn hrow HF.out).mono ?_; rintro e w' ⟨rfl, hb2⟩)
 go_ret
 exact ⟨rfl, hb2⟩
set_option maxHeartbeats 400000 in
theorem allBd_any (l : List Bd) (p : Bd -> Bool) (cp : Nat) (A : Option Addr) (w : World) (hn : l.length <= 1000) (hrow : Row bdL 8 w w.heap.size A l)
  (hf : ∀ c ∈ l, ∀ W, Below w.heap.size w W -> Calls Try.prog 48 #[bdV c] W fun e w' => e = .returned (.bool (p c)) /\ Below W.heap.size W w') :
  Calls Try.prog 47 #[.slice A l.length cp, .func (.func 48) #[] #[]] w fun e w' => e = .returned (.bool (l.all p)) /\ Below w.heap.size w w' := by
 have hX := containsBd_any l (fun c => !p c) cp w.heap.size A (w.alloc (.cells #[.func (.func 48) #[] #[]] 120)) hn (hrow_ok hrow _) (fun c hc W hW => notBd_any c w.heap.size (p c) W (keep_cell (Whole.at (Whole.made w 120 #[.func (.func 48) #[] #[]]) 0 rfl) hW) fun W' hW' => hf c hc W' (below_next (below_next ((Below.refl _ _).alloc (Nat.le_refl _) _) hW) hW'))
 have HX := Lib.hid hX
 clear hX hf
 go_enter Try.func47, Try.ntmps47
 go_wp2_with (go_at_call 71; refine (HX.out).mono ?_; rintro e w' ⟨rfl, hb2⟩)
 go_ret
 exact ⟨ret_bool (idx_all p l), below_next ((Below.refl _ _).alloc (Nat.le_refl _) _) hb2⟩
set_option maxHeartbeats 400000 in
theorem notCl_any (x : Cl) (rb : Nat) (b : Bool) (w : World) (nb : Nat) (hr : w.cell? ⟨rb, 0, none⟩ = some (.func (.func 46) #[] #[.pointer (some ⟨nb, 0, none⟩)]))
  (hf : ∀ W, Below w.heap.size w W -> Calls Try.prog 46 #[clV x, .pointer (some ⟨nb, 0, none⟩)] W fun e w' => e = .returned (.bool b) /\ Below W.heap.size W w') :
  Calls Try.prog 70 #[clV x, .pointer (some ⟨rb, 0, none⟩)] w fun e w' => e = .returned (.bool (!b)) /\ Below w.heap.size w w' := by
 have HF := Lib.hid hf
 have hlt := World.block_lt_of_cell? w _ hr
 dsimp only at hlt
 clear hf
 go_enter Try.func70, Try.ntmps70
 go_wp2_with (go_at_call 46; refine (HF.out _ (Below.refl _ _)).mono ?_; rintro e w' ⟨rfl, hb⟩)
 go_ret
 exact ⟨rfl, hb⟩
set_option maxHeartbeats 400000 in
theorem idxCl_any (l : List Cl) (p : Cl -> Bool) (cp rb : Nat) (A : Option Addr) (w : World) (hn : l.length <= 1000) (hrow : Row clL 1 w w.heap.size A l)
  (hf : ∀ c ∈ l, ∀ W, Below w.heap.size w W -> Calls Try.prog 70 #[clV c, .pointer (some ⟨rb, 0, none⟩)] W fun e w' => e = .returned (.bool (p c)) /\ Below W.heap.size W w') :
  Calls Try.prog 93 #[.slice A l.length cp, .func (.func 70) #[] #[.pointer (some ⟨rb, 0, none⟩)]] w fun e w' => e = .returned (.int .i64 (idx p l)) /\ Below w.heap.size w w' := by
 have HF := Lib.hid hf
 clear hf
 obtain ⟨n, hnl⟩ : ∃ n, n = l.length := ⟨_, rfl⟩
 rw [<- hnl] at hn ⊢
 have HN := Lib.hid hnl
 clear hnl
 go_enter Try.func93, Try.ntmps93
 go_wp2
 go_loopw [4, 5, 8] (fun _ _ i wr => ∃ k : Nat, k <= n /\ i = .int .i64 k /\ Below w.heap.size w wr /\ early p l k) (fun _ _ i _ => n - (intOf i).toNat)
 case atStart => exact ⟨0, Nat.zero_le _, rfl, Below.refl _ _, early_zero _ _⟩
 case round =>
  obtain ⟨k, hk, rfl, hbw, he⟩ := hrel
  have HE := Lib.hid he
  clear he
  by_cases hlt : k < n
  ·obtain ⟨c, hc⟩ := get_of_lt (l := l) (k := k) (by have := HN.out; omega)
   obtain ⟨b, off, rfl, hb, h0⟩ := rowC (hrow.below hbw) hc
   have HC := Lib.hid hc
   clear hc
   cases hp : p c
   ·go_wp2_with (go_at_call 70; refine (HF.out c (List.mem_of_getElem? HC.out) _ hbw).mono ?_; rintro e w' ⟨rfl, hb2⟩)
    go_roundw
    case rel => exact ⟨k + 1, by omega, by go_num, below_next hbw hb2, early_succ HE.out HC.out hp⟩
    case measure => simp [intOf]; omega
   ·go_wp2_with (go_at_call 70; refine (HF.out c (List.mem_of_getElem? HC.out) _ hbw).mono ?_; rintro e w' ⟨rfl, hb2⟩)
    go_ret
    exact ⟨ret_int (idx_here p l k c HC.out hp HE.out).symm, below_next hbw hb2⟩
  ·go_wp2_with fail
   go_ret
   have hkn : k = l.length := by have := HN.out; omega
   exact ⟨ret_int (idx_none p l (hkn ▸ HE.out)).symm, hbw⟩
set_option maxHeartbeats 400000 in
theorem containsCl_any (l : List Cl) (p : Cl -> Bool) (cp rb : Nat) (A : Option Addr) (w : World) (hn : l.length <= 1000) (hrow : Row clL 1 w w.heap.size A l)
  (hf : ∀ c ∈ l, ∀ W, Below w.heap.size w W -> Calls Try.prog 70 #[clV c, .pointer (some ⟨rb, 0, none⟩)] W fun e w' => e = .returned (.bool (p c)) /\ Below W.heap.size W w') :
  Calls Try.prog 69 #[.slice A l.length cp, .func (.func 70) #[] #[.pointer (some ⟨rb, 0, none⟩)]] w fun e w' => e = .returned (.bool (decide (0 <= idx p l))) /\ Below w.heap.size w w' := by
 have HF := Lib.hid hf
 clear hf
 go_enter Try.func69, Try.ntmps69
 go_wp2_with (go_at_call 93; refine (idxCl_any l p cp rb A _ hn hrow HF.out).mono ?_; rintro e w' ⟨rfl, hb2⟩)
 go_ret
 exact ⟨rfl, hb2⟩
set_option maxHeartbeats 400000 in
theorem allCl_any (l : List Cl) (p : Cl -> Bool) (cp : Nat) (A : Option Addr) (w : World) (nb : Nat) (hn : l.length <= 1000) (hrow : Row clL 1 w w.heap.size A l)
  (hf : ∀ c ∈ l, ∀ W, Below w.heap.size w W -> Calls Try.prog 46 #[clV c, .pointer (some ⟨nb, 0, none⟩)] W fun e w' => e = .returned (.bool (p c)) /\ Below W.heap.size W w') :
  Calls Try.prog 45 #[.slice A l.length cp, .func (.func 46) #[] #[.pointer (some ⟨nb, 0, none⟩)]] w fun e w' => e = .returned (.bool (l.all p)) /\ Below w.heap.size w w' := by
 have hX := containsCl_any l (fun c => !p c) cp w.heap.size A (w.alloc (.cells #[.func (.func 46) #[] #[.pointer (some ⟨nb, 0, none⟩)]] 121)) hn (hrow_ok hrow _) (fun c hc W hW => notCl_any c w.heap.size (p c) W nb (keep_cell (Whole.at (Whole.made w 121 #[.func (.func 46) #[] #[.pointer (some ⟨nb, 0, none⟩)]]) 0 rfl) hW) fun W' hW' => hf c hc W' (below_next (below_next ((Below.refl _ _).alloc (Nat.le_refl _) _) hW) hW'))
 have HX := Lib.hid hX
 clear hX hf
 go_enter Try.func45, Try.ntmps45
 go_wp2_with (go_at_call 69; refine (HX.out).mono ?_; rintro e w' ⟨rfl, hb2⟩)
 go_ret
 exact ⟨ret_bool (idx_all p l), below_next ((Below.refl _ _).alloc (Nat.le_refl _) _) hb2⟩
structure SmFew (s : Sm) : Prop where
 cs : s.cs.length <= 1000
 bd : ∀ x ∈ s.cs, x.beds.length <= 1000
set_option maxHeartbeats 1000000 in
theorem colValid_any (x : Cl) (n : Nat) (nb : Nat) (w : World) (hn : x.beds.length <= 1000) (hc : w.cell? ⟨nb, 0, none⟩ = some (vi n)) (hrow : Row bdL 8 w w.heap.size x.a x.beds) :
  Calls Try.prog 46 #[clV x, .pointer (some ⟨nb, 0, none⟩)] w fun e w' => e = .returned (.bool (decide (x.beds.length = n) && x.beds.all bdB)) /\ newer w w' := by
 have HA := Lib.hid (allBd_any x.beds bdB x.cp x.a w hn hrow fun c _ W _ => bdValid_any c W)
 by_cases h : x.beds.length = n
 ·have e1 : ((x.beds.length : Int) == n) = true := by rw [beq_iff_eq]; omega
  rw [decide_eq_true h]
  clear h hn
  go_enter Try.func46, Try.ntmps46
  go_wp2_with fail
  refine (HA.out).mono ?_
  rintro e w1 ⟨rfl, hb⟩
  have HB := Lib.hid hb
  clear hb HA
  go_wp2_with fail
  go_ret
  exact ⟨rfl, HB.out⟩
 ·have e1 : ((x.beds.length : Int) == n) = false := by rw [beq_eq_false_iff_ne]; omega
  rw [decide_eq_false h]
  clear h hn
  go_enter Try.func46, Try.ntmps46
  go_wp2_with fail
  go_ret
  exact ⟨rfl, Below.refl _ _⟩
theorem sd_n {s : Sm} {x : Cl} (h : s.cs[0]? = some x) : s.sd.n = x.beds.length := by
 unfold Sm.sd Sd.n
 cases hs : s.cs with
 | nil => rw [hs] at h; simp at h
 | cons y l =>
  rw [hs] at h
  have e : y = x := by simpa using h
  subst e
  rfl
theorem sd_len (s : Sm) : s.sd.cols.length = s.cs.length := by simp [Sm.sd]
theorem sd_all (s : Sm) (p : List Bd -> Bool) : s.sd.cols.all p = s.cs.all fun x => p x.beds := by simp [Sm.sd, List.all_map, Function.comp_def]
set_option maxRecDepth 100000 in
set_option maxHeartbeats 2000000 in
theorem valid_any (s : Sm) (w : World) (hok : SmOk s w) (few : SmFew s) : Calls Try.prog 22 #[smV s] w fun e w' => e = .returned (.bool (slopeB s.sd)) /\ newer w w' := by
 have hnw := newer_allocH w (.cells (smC s) 46)
 have hbx := Whole.made w 46 (smC s)
 have HOK := Lib.hid hok
 have HF := Lib.hid few
 unfold slopeB
 rw [sd_len, sd_all, show s.sd.least = s.least from rfl]
 have C1 := Lib.hid (fun W => within_any s.cs.length 1 12 W)
 have C3 := Lib.hid (fun W => within_any s.least 1 4 W)
 obtain ⟨q1, h1⟩ : ∃ q, q = inB s.cs.length 1 12 := ⟨_, rfl⟩
 obtain ⟨q3, h3⟩ : ∃ q, q = inB s.least 1 4 := ⟨_, rfl⟩
 have HQ1 := Lib.hid h1
 rw [<- h1] at C1 ⊢
 rw [<- h3] at C3 ⊢
 clear h1 h3 hok few
 have H1 := Lib.hid (And.intro (hnw) (hbx))
 clear hnw hbx
 have x0 := H1.out.2.at 0 (v := .slice s.a s.cs.length s.c) rfl
 have x1 := H1.out.2.at 1 (v := vi s.least) rfl
 cases q1 with
 | false =>
  go_enter Try.func22, Try.ntmps22
  go_wp2_with fail
  refine (C1.out _).mono ?_
  rintro e w' ⟨rfl, rfl⟩
  go_wp2_with fail
  go_ret
  exact ⟨rfl, H1.out.1⟩
 | true =>
  have hl1 : inB s.cs.length 1 12 = true := HQ1.out.symm
  simp only [inB, Bool.and_eq_true, decide_eq_true_eq] at hl1
  obtain ⟨x, hx⟩ := get_of_lt (l := s.cs) (k := 0) (by omega)
  have HX := Lib.hid hx
  rw [sd_n hx]
  have hne : ¬ (s.cs = []) := by intro h; rw [h] at hl1; simp at hl1
  have hl0 : (0 : Int) < s.cs.length := by omega
  have C2 := Lib.hid (fun W => within_any x.beds.length 1 5 W)
  obtain ⟨q2, h2⟩ : ∃ q, q = inB x.beds.length 1 5 := ⟨_, rfl⟩
  rw [<- h2] at C2 ⊢
  clear h2 hx hl1
  obtain ⟨b2, o2, e2, _, cx⟩ := rowC (HOK.out.next H1.out.1).cs HX.out
  rw [e2] at x0
  simp only [Nat.add_zero] at cx
  clear hne e2
  go_enter Try.func22, Try.ntmps22
  go_wp2_with fail
  refine (C1.out _).mono ?_
  rintro e w' ⟨rfl, rfl⟩
  go_wp2_with fail
  refine (C2.out _).mono ?_
  rintro e w' ⟨rfl, rfl⟩
  cases q2 with
  | false =>
   go_wp2_with fail
   go_ret
   exact ⟨rfl, H1.out.1⟩
  | true =>
   go_wp2_with fail
   refine (C3.out _).mono ?_
   rintro e w' ⟨rfl, rfl⟩
   cases q3 with
   | false =>
    go_wp2_with fail
    go_ret
    exact ⟨rfl, H1.out.1⟩
   | true =>
    go_upto_region 4 with fail
    refine genQ (fun X => newer w X /\ Whole X w.heap.size 46 (smC s) /\ Whole X (w.heap.size + 1) 3 #[vi x.beds.length]) ⟨(newer_trans H1.out.1 (newer_allocH (w.alloc (.cells (smC s) 46)) (.cells #[vi x.beds.length] 3))), (H1.out.2.below (newer_allocH (w.alloc (.cells (smC s) 46)) (.cells #[vi x.beds.length] 3)) H1.out.2.lt), (by have h := Whole.made (w.alloc (.cells (smC s) 46)) 3 #[vi x.beds.length]; rw [World.size_alloc] at h; exact h)⟩ ?_
    obtain ⟨nb, hnb⟩ : ∃ nb, nb = w.heap.size + 1 := ⟨_, rfl⟩
    rw [<- hnb]
    clear hnb
    rintro w2 ⟨g0_, g1_, g2_⟩
    have H3 := Lib.hid (And.intro (g0_) (And.intro (g1_) (g2_)))
    clear g0_ g1_ g2_ H1 x0 x1 cx hl0
    have x0 := H3.out.2.1.at 0 (v := .slice s.a s.cs.length s.c) rfl
    have x1 := H3.out.2.1.at 1 (v := vi s.least) rfl
    have HAL := Lib.hid (allCl_any s.cs (fun z => decide (z.beds.length = x.beds.length) && z.beds.all bdB) s.c s.a w2 nb HF.out.cs (HOK.out.next H3.out.1).cs fun z hz V hV => colValid_any z x.beds.length nb V (HF.out.bd z hz) ((H3.out.2.2.below hV H3.out.2.2.lt).at 0 rfl) ((HOK.out.next (newer_trans H3.out.1 hV)).bd z hz))
    go_wp2_with fail
    refine (HAL.out).mono ?_
    rintro e w4 ⟨rfl, hb⟩
    have H5 := Lib.hid (And.intro ((newer_trans H3.out.1 hb)) (And.intro ((H3.out.2.1.below hb H3.out.2.1.lt)) ((H3.out.2.2.below hb H3.out.2.2.lt))))
    clear hb HAL H3 x0 x1
    go_wp2_with fail
    go_ret
    exact ⟨rfl, H5.out.1⟩
end

section
open Go.RowKit Go.Deep
set_option maxHeartbeats 1000000 in
theorem holds_any (b : Bd) (x : Rl) (w : World) (hn : 0 <= b.normal /\ b.normal <= 100000) (h1 : 0 <= x.fr /\ x.fr <= 2000) (h2 : 0 <= x.co /\ x.co <= 100000) (h3 : 0 <= x.wa /\ x.wa <= 100000) :
  Calls Try.prog 66 #[bdV b, rlV x] w fun e w' => e = .returned (vi (holdsN b x)) /\ newer w w' := by
 have hp := holds_bd (b := b) (x := x) hn h1 h2 h3.1
 obtain ⟨drive, normal, fr, co, wa⟩ := b
 obtain ⟨xf, xc, xw⟩ := x
 unfold holdsN at hp ⊢
 dsimp only at hn h1 h2 h3 hp ⊢
 have HN := Lib.hid (newer_trans (newer_allocH w (.cells #[vi drive, vi normal, vi fr.lo, vi fr.hi, vi co.lo, vi co.hi, vi wa.lo, vi wa.hi] 93)) (newer_allocH (w.alloc (.cells #[vi drive, vi normal, vi fr.lo, vi fr.hi, vi co.lo, vi co.hi, vi wa.lo, vi wa.hi] 93)) (.cells #[vi xf, vi xc, vi xw] 95)))
 by_cases hd : 0 < normal - xw
 ·have e : mxI 0 (normal - xw) = normal - xw := by unfold mxI; rw [if_pos hd]
  rw [e] at hp ⊢
  have hd2 : xw < normal := by omega
  clear e
  go_enter Try.func66, Try.ntmps66
  go_wp2_with fail
  all_goals first
   | (exfalso; omega)
   | (go_ret; exact ⟨rfl, HN.out⟩)
 ·have e : mxI 0 (normal - xw) = 0 := by unfold mxI; rw [if_neg hd]
  rw [e] at hp ⊢
  have hd2 : ¬ xw < normal := by omega
  simp only [Int.zero_mul, Int.zero_ediv, Int.zero_add] at hp ⊢
  clear e
  go_enter Try.func66, Try.ntmps66
  go_wp2_with fail
  all_goals first
   | (exfalso; omega)
   | (go_ret; exact ⟨rfl, HN.out⟩)
theorem call_end (g : Bool) (args : Array Value) (W : World) : (callFunc (endG g) args).run Try.prog W = .ok (.enter (endG g) args) W := by
 cases g <;> simp [endG, go_sem]
theorem endR_is (hs : Bool) (b : Bd) : (⟨endI hs b.fr, endI hs b.co, endI (!hs) b.wa⟩ : Rl) = endR hs b := by cases hs <;> rfl
set_option maxRecDepth 100000 in
set_option maxHeartbeats 2000000 in
theorem real_any (hs : Bool) (b : Bd) (w : World) : Calls Try.prog 74 #[bdV b, .func (.func (endG hs)) #[] #[], .func (.func (endG (!hs))) #[] #[]] w fun e w' => e = .returned (rlV (endR hs b)) /\ newer w w' := by
 have hnw := newer_trans (newer_allocH w (.cells (bdC b) 93)) (newer_allocH (w.alloc (.cells (bdC b) 93)) (.cells #[vi 0, vi 0, vi 0] 95))
 have hbx := (Whole.made w 93 (bdC b)).alloc (.cells #[vi 0, vi 0, vi 0] 95)
 have hrb := Whole.made (w.alloc (.cells (bdC b) 93)) 95 #[vi 0, vi 0, vi 0]
 simp only [World.size_alloc] at hrb
 rw [<- endR_is]
 have H1 := Lib.hid (And.intro (hnw) (And.intro (hbx) (hrb)))
 clear hnw hbx hrb
 have x0 := H1.out.2.1.at 0 (v := vi b.drive) rfl
 have x1 := H1.out.2.1.at 1 (v := vi b.normal) rfl
 have x2 := H1.out.2.1.at 2 (v := vi b.fr.lo) rfl
 have x3 := H1.out.2.1.at 3 (v := vi b.fr.hi) rfl
 have x4 := H1.out.2.1.at 4 (v := vi b.co.lo) rfl
 have x5 := H1.out.2.1.at 5 (v := vi b.co.hi) rfl
 have x6 := H1.out.2.1.at 6 (v := vi b.wa.lo) rfl
 have x7 := H1.out.2.1.at 7 (v := vi b.wa.hi) rfl
 go_enter Try.func74, Try.ntmps74
 go_upto_region 1 with fail
 refine wp_words (by kernel_rfl) (region_told 13 (by kernel_rfl) (by kernel_rfl) (fun W => Below ((w.alloc (.cells (bdC b) 93)).alloc (.cells #[vi 0, vi 0, vi 0] 95)).heap.size ((w.alloc (.cells (bdC b) 93)).alloc (.cells #[vi 0, vi 0, vi 0] 95)) W) newer (pickD [vIs (.func (.func (endG hs)) #[] #[]), vIs (.pointer (some ⟨w.heap.size, 2, none⟩)), vIs (rgV b.fr), vIs (vi (endI hs b.fr)), vIs (.func (.func (endG hs)) #[] #[]), vIs (.pointer (some ⟨w.heap.size, 4, none⟩)), vIs (rgV b.co), vIs (vi (endI hs b.co)), vIs (.func (.func (endG (!hs))) #[] #[]), vIs (.pointer (some ⟨w.heap.size, 6, none⟩)), vIs (rgV b.wa), vIs (vi (endI (!hs) b.wa)), vIs (.agg #[vi (endI hs b.fr), vi (endI hs b.co), vi (endI (!hs) b.wa)])]) (fun h k => newer_trans h k) (pickD_stable _ ⟨vIs_st, vIs_st, vIs_st, vIs_st, vIs_st, vIs_st, vIs_st, vIs_st, vIs_st, vIs_st, vIs_st, vIs_st, vIs_st, trivial⟩) (Below.refl _ ((w.alloc (.cells (bdC b) 93)).alloc (.cells #[vi 0, vi 0, vi 0] 95))).drew (Below.refl _ _) ?_ ?_)
 ·refine ⟨?_, ?_, ?_, ?_, ?_, ?_, ?_, ?_, ?_, ?_, ?_, ?_, ?_, trivial⟩
  ·intro a W hG hR hO hp; have h1 := hO.slot 1 (by kernel_rfl); refine wp_yields (v := .func (.func (endG hs)) #[] #[]) ?_ ⟨_, rfl, rfl, Below.refl _ _, hG⟩; simp [slotOf] at h1; simp [execOp, go_sem, h1]
  ·intro a W hG hR hO hp; have h3 := hO.slot 3 (by kernel_rfl); refine wp_yields (v := .pointer (some ⟨w.heap.size, 2, none⟩)) ?_ ⟨_, rfl, rfl, Below.refl _ _, hG⟩; simp [slotOf] at h3; simp [execOp, go_sem, h3]
  ·intro a W hG hR hO hp; have h8 : slotOf a 8 = .pointer (some ⟨w.heap.size, 2, none⟩) := hp.1; have c0 := keep_cell x2 hG; have c1 := keep_cell x3 hG; refine wp_yields (v := rgV b.fr) ?_ ⟨_, rfl, rfl, Below.refl _ _, hG⟩; simp [slotOf] at h8; simp [execOp, go_sem, h8, c0, c1]
  ·intro a W hG hR hO hp
   have h7 : slotOf a 7 = .func (.func (endG hs)) #[] #[] := hp.1
   have h9 : slotOf a 9 = rgV b.fr := hp.2.1
   refine wp_enters (f := (endG hs)) (args := #[rgV b.fr]) ?_ ((end_any hs b.fr W).mono ?_)
   ·simp [slotOf] at h7 h9
    simp [execOp, go_sem, h7, h9, call_end]
   ·rintro e w' ⟨rfl, hb⟩
    exact ⟨_, rfl, _, rfl, rfl, hb, below_next hG hb⟩
  ·intro a W hG hR hO hp; have h1 := hO.slot 1 (by kernel_rfl); refine wp_yields (v := .func (.func (endG hs)) #[] #[]) ?_ ⟨_, rfl, rfl, Below.refl _ _, hG⟩; simp [slotOf] at h1; simp [execOp, go_sem, h1]
  ·intro a W hG hR hO hp; have h3 := hO.slot 3 (by kernel_rfl); refine wp_yields (v := .pointer (some ⟨w.heap.size, 4, none⟩)) ?_ ⟨_, rfl, rfl, Below.refl _ _, hG⟩; simp [slotOf] at h3; simp [execOp, go_sem, h3]
  ·intro a W hG hR hO hp; have h12 : slotOf a 12 = .pointer (some ⟨w.heap.size, 4, none⟩) := hp.1; have c0 := keep_cell x4 hG; have c1 := keep_cell x5 hG; refine wp_yields (v := rgV b.co) ?_ ⟨_, rfl, rfl, Below.refl _ _, hG⟩; simp [slotOf] at h12; simp [execOp, go_sem, h12, c0, c1]
  ·intro a W hG hR hO hp
   have h11 : slotOf a 11 = .func (.func (endG hs)) #[] #[] := hp.1
   have h13 : slotOf a 13 = rgV b.co := hp.2.1
   refine wp_enters (f := (endG hs)) (args := #[rgV b.co]) ?_ ((end_any hs b.co W).mono ?_)
   ·simp [slotOf] at h11 h13
    simp [execOp, go_sem, h11, h13, call_end]
   ·rintro e w' ⟨rfl, hb⟩
    exact ⟨_, rfl, _, rfl, rfl, hb, below_next hG hb⟩
  ·intro a W hG hR hO hp; have h2 := hO.slot 2 (by kernel_rfl); refine wp_yields (v := .func (.func (endG (!hs))) #[] #[]) ?_ ⟨_, rfl, rfl, Below.refl _ _, hG⟩; simp [slotOf] at h2; simp [execOp, go_sem, h2]
  ·intro a W hG hR hO hp; have h3 := hO.slot 3 (by kernel_rfl); refine wp_yields (v := .pointer (some ⟨w.heap.size, 6, none⟩)) ?_ ⟨_, rfl, rfl, Below.refl _ _, hG⟩; simp [slotOf] at h3; simp [execOp, go_sem, h3]
  ·intro a W hG hR hO hp; have h16 : slotOf a 16 = .pointer (some ⟨w.heap.size, 6, none⟩) := hp.1; have c0 := keep_cell x6 hG; have c1 := keep_cell x7 hG; refine wp_yields (v := rgV b.wa) ?_ ⟨_, rfl, rfl, Below.refl _ _, hG⟩; simp [slotOf] at h16; simp [execOp, go_sem, h16, c0, c1]
  ·intro a W hG hR hO hp
   have h15 : slotOf a 15 = .func (.func (endG (!hs))) #[] #[] := hp.1
   have h17 : slotOf a 17 = rgV b.wa := hp.2.1
   refine wp_enters (f := (endG (!hs))) (args := #[rgV b.wa]) ?_ ((end_any (!hs) b.wa W).mono ?_)
   ·simp [slotOf] at h15 h17
    simp [execOp, go_sem, h15, h17, call_end]
   ·rintro e w' ⟨rfl, hb⟩
    exact ⟨_, rfl, _, rfl, rfl, hb, below_next hG hb⟩
  ·intro a W hG hR hO hp; have h10 : slotOf a 10 = vi (endI hs b.fr) := hp.1; have h14 : slotOf a 14 = vi (endI hs b.co) := hp.2.1; have h18 : slotOf a 18 = vi (endI (!hs) b.wa) := hp.2.2.1; refine wp_yields (v := .agg #[vi (endI hs b.fr), vi (endI hs b.co), vi (endI (!hs) b.wa)]) ?_ ⟨_, rfl, rfl, Below.refl _ _, hG⟩; simp [slotOf] at h10 h14 h18; simp [execOp, go_sem, h10, h14, h18]
 ·intro wz hG hR
  rintro _ rfl _ rfl _ rfl _ rfl _ rfl _ rfl _ rfl _ rfl _ rfl _ rfl _ rfl _ rfl _ rfl
  change wpList _ _ _ _ _ _
  simp only [Act.put, List.setIfInBounds_toArray, List.set_cons_zero, List.set_cons_succ, List.drop_succ_cons, List.drop_zero]
  clear hR
  have H2 := Lib.hid (And.intro ((newer_trans H1.out.1 hG)) (And.intro ((H1.out.2.1.below hG H1.out.2.1.lt)) ((H1.out.2.2.below hG H1.out.2.2.lt))))
  clear hG H1 x0 x1 x2 x3 x4 x5 x6 x7
  have f0 := H2.out.2.2.free 0
  have f1 := H2.out.2.2.free 1
  have f2 := H2.out.2.2.free 2
  have r0 := H2.out.2.2.at 0 (v := vi 0) rfl
  have r1 := H2.out.2.2.at 1 (v := vi 0) rfl
  have r2 := H2.out.2.2.at 2 (v := vi 0) rfl
  go_wp2_with fail
  have HZ := Lib.hid (And.intro (((H2.out.1.setCell (p := ⟨w.heap.size + 1, 0, none⟩) (Nat.le_succ _) (vi (endI hs b.fr))).setCell (p := ⟨w.heap.size + 1, 1, none⟩) (Nat.le_succ _) (vi (endI hs b.co))).setCell (p := ⟨w.heap.size + 1, 2, none⟩) (Nat.le_succ _) (vi (endI (!hs) b.wa))) (((H2.out.2.2.set 0 (vi (endI hs b.fr))).set 1 (vi (endI hs b.co))).set 2 (vi (endI (!hs) b.wa))))
  have z0 := HZ.out.2.at 0 (v := vi (endI hs b.fr)) rfl
  have z1 := HZ.out.2.at 1 (v := vi (endI hs b.co)) rfl
  have z2 := HZ.out.2.at 2 (v := vi (endI (!hs) b.wa)) rfl
  exact bodyPost_ret (v := .agg #[vi (endI hs b.fr), vi (endI hs b.co), vi (endI (!hs) b.wa)]) (by simp [results, Try.results74, go_sem, z0, z1, z2]) rfl ⟨rfl, HZ.out.1⟩
set_option maxHeartbeats 1000000 in
theorem least_any (b : Bd) (w : World) : Calls Try.prog 49 #[bdV b] w fun e w' => e = .returned (rlV (endR false b)) /\ newer w w' := by
 have hnw := newer_trans (newer_allocH w (.cells (bdC b) 93)) (newer_allocH (w.alloc (.cells (bdC b) 93)) (.cells #[vi 0, vi 0, vi 0] 95))
 have hbx := (Whole.made w 93 (bdC b)).alloc (.cells #[vi 0, vi 0, vi 0] 95)
 have hrb := Whole.made (w.alloc (.cells (bdC b) 93)) 95 #[vi 0, vi 0, vi 0]
 simp only [World.size_alloc] at hrb
 obtain ⟨x, hx⟩ : ∃ x, x = endR false b := ⟨_, rfl⟩
 have HA := Lib.hid (fun W => real_any false b W)
 rw [<- hx] at HA ⊢
 clear hx
 have H1 := Lib.hid (And.intro (hnw) (And.intro (hbx) (hrb)))
 clear hnw hbx hrb
 have x0 := H1.out.2.1.at 0 (v := vi b.drive) rfl
 have x1 := H1.out.2.1.at 1 (v := vi b.normal) rfl
 have x2 := H1.out.2.1.at 2 (v := vi b.fr.lo) rfl
 have x3 := H1.out.2.1.at 3 (v := vi b.fr.hi) rfl
 have x4 := H1.out.2.1.at 4 (v := vi b.co.lo) rfl
 have x5 := H1.out.2.1.at 5 (v := vi b.co.hi) rfl
 have x6 := H1.out.2.1.at 6 (v := vi b.wa.lo) rfl
 have x7 := H1.out.2.1.at 7 (v := vi b.wa.hi) rfl
 go_enter Try.func49, Try.ntmps49
 go_wp2_with fail
 refine (HA.out _).mono ?_
 rintro e w2 ⟨rfl, hb⟩
 have H3 := Lib.hid (And.intro ((newer_trans H1.out.1 hb)) (And.intro ((H1.out.2.1.below hb H1.out.2.1.lt)) ((H1.out.2.2.below hb H1.out.2.2.lt))))
 clear hb HA H1 x0 x1 x2 x3 x4 x5 x6 x7
 have f0 := H3.out.2.2.free 0
 have f1 := H3.out.2.2.free 1
 have f2 := H3.out.2.2.free 2
 have r0 := H3.out.2.2.at 0 (v := vi 0) rfl
 have r1 := H3.out.2.2.at 1 (v := vi 0) rfl
 have r2 := H3.out.2.2.at 2 (v := vi 0) rfl
 go_wp2_with fail
 have HZ := Lib.hid (And.intro (((H3.out.1.setCell (p := ⟨w.heap.size + 1, 0, none⟩) (Nat.le_succ _) (vi x.fr)).setCell (p := ⟨w.heap.size + 1, 1, none⟩) (Nat.le_succ _) (vi x.co)).setCell (p := ⟨w.heap.size + 1, 2, none⟩) (Nat.le_succ _) (vi x.wa)) (((H3.out.2.2.set 0 (vi x.fr)).set 1 (vi x.co)).set 2 (vi x.wa)))
 have z0 := HZ.out.2.at 0 (v := vi x.fr) rfl
 have z1 := HZ.out.2.at 1 (v := vi x.co) rfl
 have z2 := HZ.out.2.at 2 (v := vi x.wa) rfl
 exact bodyPost_ret (v := .agg #[vi x.fr, vi x.co, vi x.wa]) (by simp [results, Try.results49, go_sem, z0, z1, z2]) rfl ⟨rfl, HZ.out.1⟩
end

section
open Go.RowKit Go.Deep
def trF (t : Option Bool) : Nat := match t with
 | some false => 49
 | some true => 49
 | none => 25
def trR (t : Option Bool) (b : Bd) : Rl := match t with
 | some _ => endR false b
 | none => ⟨0, 0, 0⟩
def hT (t : Option Bool) (s : Sd) (k b : Nat) : Int := match t with
 | some _ => hAt false s k b
 | none => 0
set_option maxHeartbeats 1000000 in
theorem zero_any (b : Bd) (w : World) : Calls Try.prog 25 #[bdV b] w fun e w' => e = .returned (rlV ⟨0, 0, 0⟩) /\ newer w w' := by
 have hnw := newer_trans (newer_allocH w (.cells (bdC b) 93)) (newer_allocH (w.alloc (.cells (bdC b) 93)) (.cells #[vi 0, vi 0, vi 0] 95))
 have hrb := Whole.made (w.alloc (.cells (bdC b) 93)) 95 #[vi 0, vi 0, vi 0]
 simp only [World.size_alloc] at hrb
 have HZ := Lib.hid (And.intro hnw hrb)
 clear hnw hrb
 go_enter Try.func25, Try.ntmps25
 go_wp2_with fail
 have z0 := HZ.out.2.at 0 (v := vi 0) rfl
 have z1 := HZ.out.2.at 1 (v := vi 0) rfl
 have z2 := HZ.out.2.at 2 (v := vi 0) rfl
 exact bodyPost_ret (v := .agg #[vi 0, vi 0, vi 0]) (by simp [results, Try.results25, go_sem, z0, z1, z2]) rfl ⟨rfl, HZ.out.1⟩
theorem tr_any (t : Option Bool) (b : Bd) (w : World) : Calls Try.prog (trF t) #[bdV b] w fun e w' => e = .returned (rlV (trR t b)) /\ newer w w' := by
 match t with
 | some false => exact least_any b w
 | some true => exact least_any b w
 | none => exact zero_any b w
theorem call_tr (t : Option Bool) (args : Array Value) (W : World) : (callFunc (trF t) args).run Try.prog W = .ok (.enter (trF t) args) W := by
 match t with
 | some false => simp [trF, go_sem]
 | some true => simp [trF, go_sem]
 | none => simp [trF, go_sem]
theorem tr_bd (t : Option Bool) {b : Bd} (h : bdB b = true) : (0 <= (trR t b).fr /\ (trR t b).fr <= 2000) /\ (0 <= (trR t b).co /\ (trR t b).co <= 100000) /\ (0 <= (trR t b).wa /\ (trR t b).wa <= 100000) := by
 obtain ⟨_, _, h3, h4, h5⟩ := bdB_parts h
 match t with
 | some false => simp only [trR, endR, Bool.false_eq_true, if_false]; omega
 | some true => simp only [trR, endR, Bool.false_eq_true, if_false]; omega
 | none => simp only [trR]; omega
abbrev lkC (s : Sm) (f : Int) (t : Option Bool) : Array Value := #[.slice s.a s.cs.length s.c, vi s.least, vi f, .func (.func (trF t)) #[] #[]]
abbrev lkV (s : Sm) (f : Int) (t : Option Bool) : Value := .agg (lkC s f t)
def costB (f : Int) (t : Option Bool) (b : Bd) : Int := 1000 * holdsN b (trR t b) - f * b.drive
set_option maxRecDepth 100000 in
set_option maxHeartbeats 2000000 in
theorem cost_any (s : Sm) (f : Int) (t : Option Bool) (k j : Nat) (x : Cl) (b : Bd) (w : World) (hok : SmOk s w) (hx : s.cs[k]? = some x) (hb : x.beds[j]? = some b) (hbd : bdB b = true) (f0 : 0 <= f) (f1 : f <= 10001) :
  Calls Try.prog 77 #[lkV s f t, vi k, vi j] w fun e w' => e = .returned (vi (costB f t b)) /\ newer w w' := by
 have hnw := newer_allocH w (.cells (lkC s f t) 88)
 have hbx := Whole.made w 88 (lkC s f t)
 have HOK := Lib.hid hok
 have HX := Lib.hid hx
 have HB := Lib.hid hb
 have HBD := Lib.hid hbd
 have hkl : (k : Int) < s.cs.length := by have := (List.getElem?_eq_some_iff.1 hx).1; omega
 have hjl : (j : Int) < x.beds.length := by have := (List.getElem?_eq_some_iff.1 hb).1; omega
 unfold costB
 obtain ⟨y, hy⟩ : ∃ y, y = trR t b := ⟨_, rfl⟩
 obtain ⟨h, hh⟩ : ∃ h, h = holdsN b y := ⟨_, rfl⟩
 have htb := tr_bd t hbd
 have hhb := holds_bd (b := b) (x := y) (bdB_parts hbd).2.1 (by rw [hy]; exact htb.1) (by rw [hy]; exact htb.2.1) (by rw [hy]; exact htb.2.2.1)
 have HT := Lib.hid (fun W => tr_any t b W)
 have HH := Lib.hid (fun W => holds_any b y W (bdB_parts hbd).2.1 (by rw [hy]; exact htb.1) (by rw [hy]; exact htb.2.1) (by rw [hy]; exact htb.2.2))
 rw [<- hh] at HH hhb
 rw [<- hy] at HT ⊢
 rw [<- hh]
 have hdr := (bdB_parts hbd).1
 have m1 := Int.mul_le_mul_of_nonneg_left hdr.1 f0
 have m2 := Int.mul_le_mul_of_nonneg_left hdr.2 f0
 obtain ⟨fd, hfd⟩ : ∃ fd, fd = f * b.drive := ⟨_, rfl⟩
 rw [<- hfd] at m1 m2 ⊢
 have c23 : IntKind.i64.wrap (1000 * h) = 1000 * h := IntWalk.i64_in _ (by omega)
 have c28 : IntKind.i64.wrap (f * b.drive) = fd := by rw [<- hfd]; exact IntWalk.i64_in _ (by omega)
 have c29 : IntKind.i64.wrap (1000 * h - fd) = 1000 * h - fd := IntWalk.i64_in _ (by omega)
 have HC := Lib.hid (And.intro c23 (And.intro c28 c29))
 clear hok hx hb hbd htb hhb hdr m1 m2 hfd hy hh c23 c28 c29
 have H1 := Lib.hid (And.intro (hnw) (hbx))
 clear hnw hbx
 have x0 := H1.out.2.at 0 (v := .slice s.a s.cs.length s.c) rfl
 have x1 := H1.out.2.at 1 (v := vi s.least) rfl
 have x2 := H1.out.2.at 2 (v := vi f) rfl
 have x3 := H1.out.2.at 3 (v := .func (.func (trF t)) #[] #[]) rfl
 obtain ⟨b1, o1, e1, _, cx⟩ := rowC (HOK.out.next H1.out.1).cs HX.out
 obtain ⟨b2, o2, e2, _, d0, d1, d2, d3, d4, d5, d6, d7⟩ := row8 ((HOK.out.next H1.out.1).bd x (List.mem_of_getElem? HX.out)) HB.out
 rw [e1] at x0
 rw [e2] at cx
 clear e1 e2
 go_enter Try.func77, Try.ntmps77
 go_upto_region 2 with fail
 refine genQ (fun X => newer w X /\ Whole X w.heap.size 88 (lkC s f t) /\ Whole X (w.heap.size + 1) 93 (bdC b)) ⟨(newer_trans H1.out.1 (newer_allocH (w.alloc (.cells (lkC s f t) 88)) (.cells (bdC b) 93))), (H1.out.2.below (newer_allocH (w.alloc (.cells (lkC s f t) 88)) (.cells (bdC b) 93)) H1.out.2.lt), (by have h := Whole.made (w.alloc (.cells (lkC s f t) 88)) 93 (bdC b); rw [World.size_alloc] at h; exact h)⟩ ?_
 rintro w2 ⟨g0_, g1_, g2_⟩
 have H3 := Lib.hid (And.intro (g0_) (And.intro (g1_) (g2_)))
 clear g0_ g1_ g2_ H1 x0 x1 x2 x3 cx d0 d1 d2 d3 d4 d5 d6 d7
 have z0 := H3.out.2.2.at 0 (v := vi b.drive) rfl
 have z1 := H3.out.2.2.at 1 (v := vi b.normal) rfl
 have z2 := H3.out.2.2.at 2 (v := vi b.fr.lo) rfl
 have z3 := H3.out.2.2.at 3 (v := vi b.fr.hi) rfl
 have z4 := H3.out.2.2.at 4 (v := vi b.co.lo) rfl
 have z5 := H3.out.2.2.at 5 (v := vi b.co.hi) rfl
 have z6 := H3.out.2.2.at 6 (v := vi b.wa.lo) rfl
 have z7 := H3.out.2.2.at 7 (v := vi b.wa.hi) rfl
 have x2 := H3.out.2.1.at 2 (v := vi f) rfl
 have x3 := H3.out.2.1.at 3 (v := .func (.func (trF t)) #[] #[]) rfl
 refine wp_words (by kernel_rfl) (region_told 13 (by kernel_rfl) (by kernel_rfl) (fun W => Below w2.heap.size w2 W) newer (pickD [vIs (bdV b), vIs (.pointer (some ⟨w.heap.size, 3, none⟩)), vIs (.func (.func (trF t)) #[] #[]), vIs (bdV b), vIs (rlV y), vIs (vi h), vIs (vi (1000 * h)), vIs (.pointer (some ⟨w.heap.size, 2, none⟩)), vIs (vi f), vIs (.pointer (some ⟨(w.heap.size + 1), 0, none⟩)), vIs (vi b.drive), vIs (vi fd), vIs (vi (1000 * h - fd))]) (fun h k => newer_trans h k) (pickD_stable _ ⟨vIs_st, vIs_st, vIs_st, vIs_st, vIs_st, vIs_st, vIs_st, vIs_st, vIs_st, vIs_st, vIs_st, vIs_st, vIs_st, trivial⟩) (Below.refl _ w2).drew (Below.refl _ _) ?_ ?_)
 ·refine ⟨?_, ?_, ?_, ?_, ?_, ?_, ?_, ?_, ?_, ?_, ?_, ?_, ?_, trivial⟩
  ·intro a W hG hR hO hp; have h7 := hO.slot 7 (by kernel_rfl); have c0 := keep_cell z0 hG; have c1 := keep_cell z1 hG; have c2 := keep_cell z2 hG; have c3 := keep_cell z3 hG; have c4 := keep_cell z4 hG; have c5 := keep_cell z5 hG; have c6 := keep_cell z6 hG; have c7 := keep_cell z7 hG; refine wp_yields (v := bdV b) ?_ ⟨_, rfl, rfl, Below.refl _ _, hG⟩; simp [slotOf] at h7; simp [execOp, go_sem, h7, c0, c1, c2, c3, c4, c5, c6, c7]
  ·intro a W hG hR hO hp; have h3 := hO.slot 3 (by kernel_rfl); refine wp_yields (v := .pointer (some ⟨w.heap.size, 3, none⟩)) ?_ ⟨_, rfl, rfl, Below.refl _ _, hG⟩; simp [slotOf] at h3; simp [execOp, go_sem, h3]
  ·intro a W hG hR hO hp; have h18 : slotOf a 18 = .pointer (some ⟨w.heap.size, 3, none⟩) := hp.1; have c0 := keep_cell x3 hG; refine wp_yields (v := .func (.func (trF t)) #[] #[]) ?_ ⟨_, rfl, rfl, Below.refl _ _, hG⟩; simp [slotOf] at h18; simp [execOp, go_sem, h18, c0]
  ·intro a W hG hR hO hp; have h7 := hO.slot 7 (by kernel_rfl); have c0 := keep_cell z0 hG; have c1 := keep_cell z1 hG; have c2 := keep_cell z2 hG; have c3 := keep_cell z3 hG; have c4 := keep_cell z4 hG; have c5 := keep_cell z5 hG; have c6 := keep_cell z6 hG; have c7 := keep_cell z7 hG; refine wp_yields (v := bdV b) ?_ ⟨_, rfl, rfl, Below.refl _ _, hG⟩; simp [slotOf] at h7; simp [execOp, go_sem, h7, c0, c1, c2, c3, c4, c5, c6, c7]
  ·intro a W hG hR hO hp
   have h19 : slotOf a 19 = .func (.func (trF t)) #[] #[] := hp.1
   have h20 : slotOf a 20 = bdV b := hp.2.1
   refine wp_enters (f := (trF t)) (args := #[bdV b]) ?_ ((HT.out W).mono ?_)
   ·simp [slotOf] at h19 h20
    simp [execOp, go_sem, h19, h20, call_tr]
   ·rintro e w' ⟨rfl, hb⟩
    exact ⟨_, rfl, _, rfl, rfl, hb, below_next hG hb⟩
  ·intro a W hG hR hO hp
   have h17 : slotOf a 17 = bdV b := hp.1
   have h21 : slotOf a 21 = rlV y := hp.2.1
   refine wp_enters (f := 66) (args := #[bdV b, rlV y]) ?_ ((HH.out W).mono ?_)
   ·simp [slotOf] at h17 h21
    simp [go_sem, h17, h21]
   ·rintro e w' ⟨rfl, hb⟩
    exact ⟨_, rfl, _, rfl, rfl, hb, below_next hG hb⟩
  ·intro a W hG hR hO hp; have h22 : slotOf a 22 = vi h := hp.1; refine wp_yields (v := vi (1000 * h)) ?_ ⟨_, rfl, rfl, Below.refl _ _, hG⟩; simp [slotOf] at h22; simp [execOp, go_sem, h22, HC.out.1]
  ·intro a W hG hR hO hp; have h3 := hO.slot 3 (by kernel_rfl); refine wp_yields (v := .pointer (some ⟨w.heap.size, 2, none⟩)) ?_ ⟨_, rfl, rfl, Below.refl _ _, hG⟩; simp [slotOf] at h3; simp [execOp, go_sem, h3]
  ·intro a W hG hR hO hp; have h24 : slotOf a 24 = .pointer (some ⟨w.heap.size, 2, none⟩) := hp.1; have c0 := keep_cell x2 hG; refine wp_yields (v := vi f) ?_ ⟨_, rfl, rfl, Below.refl _ _, hG⟩; simp [slotOf] at h24; simp [execOp, go_sem, h24, c0]
  ·intro a W hG hR hO hp; have h7 := hO.slot 7 (by kernel_rfl); refine wp_yields (v := .pointer (some ⟨(w.heap.size + 1), 0, none⟩)) ?_ ⟨_, rfl, rfl, Below.refl _ _, hG⟩; simp [slotOf] at h7; simp [execOp, go_sem, h7]
  ·intro a W hG hR hO hp; have h26 : slotOf a 26 = .pointer (some ⟨(w.heap.size + 1), 0, none⟩) := hp.1; have c0 := keep_cell z0 hG; refine wp_yields (v := vi b.drive) ?_ ⟨_, rfl, rfl, Below.refl _ _, hG⟩; simp [slotOf] at h26; simp [execOp, go_sem, h26, c0]
  ·intro a W hG hR hO hp; have h25 : slotOf a 25 = vi f := hp.1; have h27 : slotOf a 27 = vi b.drive := hp.2.1; refine wp_yields (v := vi fd) ?_ ⟨_, rfl, rfl, Below.refl _ _, hG⟩; simp [slotOf] at h25 h27; simp [execOp, go_sem, h25, h27, HC.out.2.1]
  ·intro a W hG hR hO hp; have h23 : slotOf a 23 = vi (1000 * h) := hp.1; have h28 : slotOf a 28 = vi fd := hp.2.1; refine wp_yields (v := vi (1000 * h - fd)) ?_ ⟨_, rfl, rfl, Below.refl _ _, hG⟩; simp [slotOf] at h23 h28; simp [execOp, go_sem, h23, h28, HC.out.2.2]
 ·intro wz hG hR
  rintro _ rfl _ rfl _ rfl _ rfl _ rfl _ rfl _ rfl _ rfl _ rfl _ rfl _ rfl _ rfl _ rfl
  change wpList _ _ _ _ _ _
  simp only [Act.put, List.setIfInBounds_toArray, List.set_cons_zero, List.set_cons_succ, List.drop_succ_cons, List.drop_zero]
  clear hR
  have H4 := Lib.hid (And.intro ((newer_trans H3.out.1 hG)) (And.intro ((H3.out.2.1.below hG H3.out.2.1.lt)) ((H3.out.2.2.below hG H3.out.2.2.lt))))
  clear hG H3 z0 z1 z2 z3 z4 z5 z6 z7 x2 x3
  go_wp2_with fail
  go_ret
  exact ⟨rfl, H4.out.1⟩
set_option maxHeartbeats 1000000 in
theorem beds_any (s : Sm) (f : Int) (t : Option Bool) (x : Cl) (w : World) (hok : SmOk s w) (hx : s.cs[0]? = some x) : Calls Try.prog 81 #[lkV s f t] w fun e w' => e = .returned (vi x.beds.length) /\ newer w w' := by
 have hnw := newer_allocH w (.cells (lkC s f t) 88)
 have hbx := Whole.made w 88 (lkC s f t)
 have HN := Lib.hid hnw
 have hl : (0 : Int) < s.cs.length := by have := (List.getElem?_eq_some_iff.1 hx).1; omega
 have x0 := hbx.at 0 (v := .slice s.a s.cs.length s.c) rfl
 obtain ⟨b1, o1, e1, _, cx⟩ := rowC (hok.next hnw).cs hx
 rw [e1] at x0
 simp only [Nat.add_zero] at cx
 clear hnw hbx hok hx e1
 go_enter Try.func81, Try.ntmps81
 go_wp2_with fail
 go_ret
 exact ⟨rfl, HN.out⟩
set_option maxHeartbeats 1000000 in
theorem below_any (s : Sm) (f : Int) (w : World) : Calls Try.prog 23 #[smV s, vi f] w fun e w' => e = .returned (lkV s f (some false)) /\ newer w w' := by
 have hrb := Whole.made (w.alloc (.cells (smC s) 46)) 88 #[.slice s.a s.cs.length s.c, vi s.least, vi f, .func (.func 49) #[] #[]]
 simp only [World.size_alloc] at hrb
 have HZ := Lib.hid (And.intro (newer_trans (newer_allocH w (.cells (smC s) 46)) (newer_allocH (w.alloc (.cells (smC s) 46)) (.cells #[.slice s.a s.cs.length s.c, vi s.least, vi f, .func (.func 49) #[] #[]] 88))) hrb)
 have hbx := Whole.made w 46 (smC s)
 have x0 := hbx.at 0 (v := .slice s.a s.cs.length s.c) rfl
 have x1 := hbx.at 1 (v := vi s.least) rfl
 clear hrb hbx
 go_enter Try.func23, Try.ntmps23
 go_wp2_with fail
 have z0 := HZ.out.2.at 0 (v := .slice s.a s.cs.length s.c) rfl
 have z1 := HZ.out.2.at 1 (v := vi s.least) rfl
 have z2 := HZ.out.2.at 2 (v := vi f) rfl
 have z3 := HZ.out.2.at 3 (v := .func (.func 49) #[] #[]) rfl
 exact bodyPost_ret (v := .agg #[.slice s.a s.cs.length s.c, vi s.least, vi f, .func (.func 49) #[] #[]]) (by simp [results, Try.results23, go_sem, z0, z1, z2, z3]) rfl ⟨rfl, HZ.out.1⟩
set_option maxHeartbeats 1000000 in
theorem min2_any (a b : Int) (nb c : Nat) (w : World) (hw : Whole w nb 3 #[vi a, vi b]) : Calls Try.prog 96 #[.slice (some ⟨nb, 0, none⟩) 2 c] w fun e w' => e = .returned (vi (mnI a b)) /\ w = w' := by
 have c0 := hw.at 0 (v := vi a) rfl
 have c1 := hw.at 1 (v := vi b) rfl
 clear hw
 by_cases h : b < a
 ·have e : mnI a b = b := by unfold mnI; rw [if_pos h]
  have h2 : ¬ a < b := by omega
  rw [e]
  clear e
  go_enter Try.func96, Try.ntmps96
  go_wp2_with fail
  go_loop [3, 4] (fun s3 s4 => (s4 = vi 1 /\ s3 = vi a) ∨ (s4 = vi 2 /\ s3 = vi b)) (fun _ s4 => 2 - (intOf s4).toNat)
  case atStart => exact .inl ⟨rfl, rfl⟩
  case round =>
   rcases hrel with ⟨rfl, rfl⟩ | ⟨rfl, rfl⟩
   ·go_wp2_with fail
    all_goals first
     | (exfalso; omega)
     | (go_round
        case rel => exact .inr ⟨rfl, rfl⟩
        case measure => simp [intOf])
   ·go_wp2_with fail
    go_ret
    exact ⟨rfl, rfl⟩
 ·have e : mnI a b = a := by unfold mnI; rw [if_neg h]
  rw [e]
  clear e
  go_enter Try.func96, Try.ntmps96
  go_wp2_with fail
  go_loop [3, 4] (fun s3 s4 => (s4 = vi 1 /\ s3 = vi a) ∨ (s4 = vi 2 /\ s3 = vi a)) (fun _ s4 => 2 - (intOf s4).toNat)
  case atStart => exact .inl ⟨rfl, rfl⟩
  case round =>
   rcases hrel with ⟨rfl, rfl⟩ | ⟨rfl, rfl⟩
   ·go_wp2_with fail
    all_goals first
     | (exfalso; omega)
     | (go_round
        case rel => exact .inr ⟨rfl, rfl⟩
        case measure => simp [intOf])
   ·go_wp2_with fail
    go_ret
    exact ⟨rfl, rfl⟩
set_option maxHeartbeats 1000000 in
theorem least2_any (a b : Int) (nb c : Nat) (w : World) (hw : Whole w nb 3 #[vi a, vi b]) : Calls Try.prog 80 #[.slice (some ⟨nb, 0, none⟩) 2 c] w fun e w' => e = .returned (vi (mnI a b)) /\ w = w' := by
 have HM := Lib.hid (min2_any a b nb c w hw)
 obtain ⟨m, hm⟩ : ∃ m, m = mnI a b := ⟨_, rfl⟩
 rw [<- hm] at HM ⊢
 clear hm hw
 go_enter Try.func80, Try.ntmps80
 go_wp2_with fail
 refine (HM.out).mono ?_
 rintro e w' ⟨rfl, rfl⟩
 go_wp2_with fail
 go_ret
 exact ⟨rfl, rfl⟩
end

section
open Go.RowKit Go.Shelf Go.Deep
set_option maxHeartbeats 1000000 in
theorem next_any (s : Sm) (f : Int) (t : Option Bool) (b : Nat) (w : World) :
  Calls Try.prog 79 #[lkV s f t, vi b] w fun e w' => e = .returned (.func (.func 95) #[] #[.pointer (some ⟨w.heap.size + 1, 0, none⟩), .pointer (some ⟨w.heap.size, 0, none⟩)]) /\ ((w.alloc (.cells (lkC s f t) 88)).alloc (.cells #[vi b] 3)) = w' := by
 go_enter Try.func79, Try.ntmps79
 go_wp2
 go_ret
 exact ⟨rfl, rfl⟩
def loN (b : Nat) : Nat := b - 1
def cntN (n b : Nat) : Nat := min (n - 1) (b + 1) + 1 - (b - 1)
theorem near_is (n b : Nat) : nearL n b = List.range' (loN b) (cntN n b) := rfl
attribute [local go_sem] Oper.semAt_some
set_option maxRecDepth 100000 in
set_option maxHeartbeats 2000000 in
theorem next_in (q l bb lb : Nat) (s : Sm) (f : Int) (t : Option Bool) (x : Cl) (b : Nat) (hx : s.cs[0]? = some x) (hb : b < x.beds.length) (hl : x.beds.length <= 1000) (J : Nat -> World -> Prop)
  (hJ : ∀ k W, J k W -> Whole W bb 3 #[vi b] /\ Whole W lb 88 (lkC s f t) /\ SmOk s W) (hN : ∀ k W W', J k W -> newer W W' -> J k W')
  (hY : ∀ k W, k < cntN x.beds.length b -> J k W -> YieldAt Fence.wide (q - 1) Try.prog l #[vi (((loN b : Nat) : Int) + k)] W fun e W'' => e = .returned (.bool true) /\ J (k + 1) W'')
  (W : World) (hW : J 0 W) :
  CallsIn Fence.wide q Try.prog 95 #[.func (.yield l) #[] #[], .pointer (some ⟨bb, 0, none⟩), .pointer (some ⟨lb, 0, none⟩)] W fun e W' => (∃ v, e = .returned v) /\ J (cntN x.beds.length b) W' := by
 have HJ := Lib.hid hJ
 have HY := Lib.hid hY
 have HN := Lib.hid hN
 have HX := Lib.hid hx
 obtain ⟨hc, _, _⟩ := hJ 0 W hW
 have b0 := hc.at 0 (v := vi b) rfl
 obtain ⟨lo, hlo⟩ : ∃ lo : Int, lo = ((loN b : Nat) : Int) := ⟨_, rfl⟩
 obtain ⟨m, hm⟩ : ∃ m, m = cntN x.beds.length b := ⟨_, rfl⟩
 obtain ⟨hi, hhi⟩ : ∃ hi : Int, hi = mnI ((x.beds.length : Int) - 1) ((b : Int) + 1) := ⟨_, rfl⟩
 have hlm : (lo = (b : Int) - 1 ∨ (lo = 0 /\ b = 0)) /\ 0 <= lo /\ hi = lo + m - 1 /\ hi <= 1000 /\ lo <= 1000 := by
  have e : hi = min ((x.beds.length : Int) - 1) ((b : Int) + 1) := by rw [hhi]; unfold mnI; split <;> omega
  rw [hlo, hm, e]
  unfold loN cntN
  omega
 rw [<- hlo] at HY
 rw [<- hm] at HY ⊢
 have HHI := Lib.hid hhi
 have HLM := Lib.hid hlm
 have HBL := Lib.hid (And.intro hb hl)
 clear hJ hY hN hc hlo hm hhi hx
 refine callsIn_of_wp Try.func95 rfl trivial ?_ rfl
 simp only [Try.ntmps95, List.size_toArray, List.length_cons, List.length_nil, Nat.reduceAdd, Nat.reduceSub, Array.replicate_succ, Array.replicate_zero, List.push_toArray, List.append_toArray, List.nil_append, List.cons_append]
 gi_wp2_with fail
 all_goals
  clear b0
  gi_loopw [4] (fun s4 wr => ∃ k : Nat, k <= m /\ s4 = vi (lo + k) /\ J k wr) (fun s4 _ => (hi + 1 - intOf s4).toNat)
  case atStart =>
   refine ⟨0, Nat.zero_le _, ?_, hW⟩
   have h := HLM.out
   first
    | (rw [show lo + ((0 : Nat) : Int) = (b : Int) - 1 by omega])
    | (rw [show lo + ((0 : Nat) : Int) = 0 by omega])
  case round =>
   obtain ⟨k, hk, rfl, hj⟩ := hrel
   obtain ⟨wo, hwo⟩ : ∃ wo : World, wo = wr := ⟨_, rfl⟩
   rw [<- hwo] at hj ⊢
   clear hwo wr
   have hj3 := HJ.out k _ hj
   have b0 := hj3.1.at 0 (v := vi b) rfl
   have l0 := hj3.2.1.at 0 (v := .slice s.a s.cs.length s.c) rfl
   have l1 := hj3.2.1.at 1 (v := vi s.least) rfl
   have l2 := hj3.2.1.at 2 (v := vi f) rfl
   have l3 := hj3.2.1.at 3 (v := .func (.func (trF t)) #[] #[]) rfl
   have HSM := Lib.hid hj3.2.2
   have HJK := Lib.hid hj
   have hlm := HLM.out
   have hbl := HBL.out
   have c11 : IntKind.i64.wrap ((x.beds.length : Int) - 1) = (x.beds.length : Int) - 1 := IntWalk.i64_in _ (by omega)
   have c13 : IntKind.i64.wrap ((b : Int) + 1) = (b : Int) + 1 := IntWalk.i64_in _ (by omega)
   clear hj3 hj hW
   by_cases hlt : k < m
   ·have hle : lo + (k : Int) <= hi := by omega
    have wn : IntKind.i64.wrap (lo + (k : Int) + 1) = lo + (k : Int) + 1 := IntWalk.i64_in _ (by omega)
    gi_wp2_with fail
    refine outer_words (by kernel_rfl) (fun _ _ h => h) (region_told 7 (by kernel_rfl) (by kernel_rfl) (fun W => Below wo.heap.size wo W) newer (pickD [vIs (vi (lo + k)), vIs (lkV s f t), vIs (vi x.beds.length), vIs (vi ((x.beds.length : Int) - 1)), vIs (vi b), vIs (vi ((b : Int) + 1)), vIs (vi hi)]) (fun h k => newer_trans h k) (pickD_stable _ ⟨vIs_st, vIs_st, vIs_st, vIs_st, vIs_st, vIs_st, vIs_st, trivial⟩) (Below.refl _ wo).drew (Below.refl _ _) ?_ ?_)
    ·refine ⟨?_, ?_, ?_, ?_, ?_, ?_, ?_, trivial⟩
     ·intro a W hG hR hO hp; have h4 := hO.slot 4 (by kernel_rfl); refine wp_yields (v := vi (lo + k)) ?_ ⟨_, rfl, rfl, Below.refl _ _, hG⟩; simp [slotOf] at h4; simp [execOp, go_sem, h4]
     ·intro a W hG hR hO hp; have h2 := hO.slot 2 (by kernel_rfl); have c0 := keep_cell l0 hG; have c1 := keep_cell l1 hG; have c2 := keep_cell l2 hG; have c3 := keep_cell l3 hG; refine wp_yields (v := lkV s f t) ?_ ⟨_, rfl, rfl, Below.refl _ _, hG⟩; simp [slotOf] at h2; simp [execOp, go_sem, h2, c0, c1, c2, c3]
     ·intro a W hG hR hO hp
      have h9 : slotOf a 9 = lkV s f t := hp.1
      refine wp_enters (f := 81) (args := #[lkV s f t]) ?_ ((beds_any s f t x W (HSM.out.next hG) HX.out).mono ?_)
      ·simp [slotOf] at h9
       simp [go_sem, h9]
      ·rintro e w' ⟨rfl, hb⟩
       exact ⟨_, rfl, _, rfl, rfl, hb, below_next hG hb⟩
     ·intro a W hG hR hO hp; have h10 : slotOf a 10 = vi x.beds.length := hp.1; refine wp_yields (v := vi ((x.beds.length : Int) - 1)) ?_ ⟨_, rfl, rfl, Below.refl _ _, hG⟩; simp [slotOf] at h10; simp [execOp, go_sem, h10, c11]
     ·intro a W hG hR hO hp; have h1 := hO.slot 1 (by kernel_rfl); have c0 := keep_cell b0 hG; refine wp_yields (v := vi b) ?_ ⟨_, rfl, rfl, Below.refl _ _, hG⟩; simp [slotOf] at h1; simp [execOp, go_sem, h1, c0]
     ·intro a W hG hR hO hp; have h12 : slotOf a 12 = vi b := hp.1; refine wp_yields (v := vi ((b : Int) + 1)) ?_ ⟨_, rfl, rfl, Below.refl _ _, hG⟩; simp [slotOf] at h12; simp [execOp, go_sem, h12, c13]
     ·intro a W hG hR hO hp; have h11 : slotOf a 11 = vi ((x.beds.length : Int) - 1) := hp.1; have h13 : slotOf a 13 = vi ((b : Int) + 1) := hp.2.1; refine wp_yields (v := vi hi) ?_ ⟨_, rfl, rfl, Below.refl _ _, hG⟩; simp [slotOf] at h11 h13; simp [go_sem, h11, h13, HHI.out, mnI]
    ·intro wz hG hR
     rintro _ rfl _ rfl _ rfl _ rfl _ rfl _ rfl _ rfl
     change wpList _ _ _ _ _ _
     simp only [Act.put, List.setIfInBounds_toArray, List.set_cons_zero, List.set_cons_succ, List.drop_succ_cons, List.drop_zero]
     have hjz := HN.out k wo wz HJK.out hG
     have HYK := Lib.hid (HY.out k wz hlt hjz)
     clear hG hR hjz b0 l0 l1 l2 l3 c11 c13 HJK HSM
     obtain ⟨fn, tmps, assign, body, hy, hR⟩ := HYK.out
     go_wp2_with fail
     refine onlyN_intro ?_
     gi_wp2_with fail
     refine ⟨fun h => (by cases h), hR.mono ?_⟩
     clear hy hR
     rintro e w3 ⟨rfl, hj3⟩
     gi_wp2_with fail
     go_roundw
     case rel => exact ⟨k + 1, by omega, by rw [show lo + ((k + 1 : Nat) : Int) = lo + k + 1 by omega], hj3⟩
     case measure => simp [intOf]; omega
   ·have hle : ¬ (lo + (k : Int) <= hi) := by omega
    obtain rfl : k = m := by omega
    gi_wp2_with fail
    refine outer_words (by kernel_rfl) (fun _ _ h => h) (region_told 7 (by kernel_rfl) (by kernel_rfl) (fun W => Below wo.heap.size wo W) newer (pickD [vIs (vi (lo + k)), vIs (lkV s f t), vIs (vi x.beds.length), vIs (vi ((x.beds.length : Int) - 1)), vIs (vi b), vIs (vi ((b : Int) + 1)), vIs (vi hi)]) (fun h k => newer_trans h k) (pickD_stable _ ⟨vIs_st, vIs_st, vIs_st, vIs_st, vIs_st, vIs_st, vIs_st, trivial⟩) (Below.refl _ wo).drew (Below.refl _ _) ?_ ?_)
    ·refine ⟨?_, ?_, ?_, ?_, ?_, ?_, ?_, trivial⟩
     ·intro a W hG hR hO hp; have h4 := hO.slot 4 (by kernel_rfl); refine wp_yields (v := vi (lo + k)) ?_ ⟨_, rfl, rfl, Below.refl _ _, hG⟩; simp [slotOf] at h4; simp [execOp, go_sem, h4]
     ·intro a W hG hR hO hp; have h2 := hO.slot 2 (by kernel_rfl); have c0 := keep_cell l0 hG; have c1 := keep_cell l1 hG; have c2 := keep_cell l2 hG; have c3 := keep_cell l3 hG; refine wp_yields (v := lkV s f t) ?_ ⟨_, rfl, rfl, Below.refl _ _, hG⟩; simp [slotOf] at h2; simp [execOp, go_sem, h2, c0, c1, c2, c3]
     ·intro a W hG hR hO hp
      have h9 : slotOf a 9 = lkV s f t := hp.1
      refine wp_enters (f := 81) (args := #[lkV s f t]) ?_ ((beds_any s f t x W (HSM.out.next hG) HX.out).mono ?_)
      ·simp [slotOf] at h9
       simp [go_sem, h9]
      ·rintro e w' ⟨rfl, hb⟩
       exact ⟨_, rfl, _, rfl, rfl, hb, below_next hG hb⟩
     ·intro a W hG hR hO hp; have h10 : slotOf a 10 = vi x.beds.length := hp.1; refine wp_yields (v := vi ((x.beds.length : Int) - 1)) ?_ ⟨_, rfl, rfl, Below.refl _ _, hG⟩; simp [slotOf] at h10; simp [execOp, go_sem, h10, c11]
     ·intro a W hG hR hO hp; have h1 := hO.slot 1 (by kernel_rfl); have c0 := keep_cell b0 hG; refine wp_yields (v := vi b) ?_ ⟨_, rfl, rfl, Below.refl _ _, hG⟩; simp [slotOf] at h1; simp [execOp, go_sem, h1, c0]
     ·intro a W hG hR hO hp; have h12 : slotOf a 12 = vi b := hp.1; refine wp_yields (v := vi ((b : Int) + 1)) ?_ ⟨_, rfl, rfl, Below.refl _ _, hG⟩; simp [slotOf] at h12; simp [execOp, go_sem, h12, c13]
     ·intro a W hG hR hO hp; have h11 : slotOf a 11 = vi ((x.beds.length : Int) - 1) := hp.1; have h13 : slotOf a 13 = vi ((b : Int) + 1) := hp.2.1; refine wp_yields (v := vi hi) ?_ ⟨_, rfl, rfl, Below.refl _ _, hG⟩; simp [slotOf] at h11 h13; simp [go_sem, h11, h13, HHI.out, mnI]
    ·intro wz hG hR
     rintro _ rfl _ rfl _ rfl _ rfl _ rfl _ rfl _ rfl
     change wpList _ _ _ _ _ _
     simp only [Act.put, List.setIfInBounds_toArray, List.set_cons_zero, List.set_cons_succ, List.drop_succ_cons, List.drop_zero]
     have HE := Lib.hid (HN.out _ wo wz HJK.out hG)
     clear hG hR b0 l0 l1 l2 l3 c11 c13 HJK HSM
     go_wp2_with fail
     refine onlyN_intro ?_
     gi_wp2_with fail
     go_end0
     exact ⟨⟨_, rfl⟩, HE.out⟩
end

section
open Go.RowKit Go.Shelf Go.Deep
abbrev evI (n : Int) : Value := vi n
theorem spot_eq (a b : Int × Int) (W : World) : (Op.equal 154 (spotK a) (spotK b)).run Try.prog W = .ok (decide (a = b)) W := by
 obtain ⟨a1, a2⟩ := a
 obtain ⟨b1, b2⟩ := b
 have e : decide ((a1, a2) = (b1, b2)) = (a1 == b1 && a2 == b2) := by
  rw [Bool.eq_iff_iff]
  simp
 rw [e]
 simp [Op.equal, Op.maxDepth, go_sem]
 by_cases h1 : a1 = b1 <;> by_cases h2 : a2 = b2 <;> simp [h1, h2]
theorem spot_check (c : Bool) (a : Int × Int) (W : World) : (Instr.checkKey c 10000 154 (spotK a)).run Try.prog W = .ok () W := by
 have h : ∀ n, (Instr.checkKey c (n + 2) 154 (spotK a)).run Try.prog W = .ok () W := by
  intro n
  simp [Instr.checkKey, run_underlying Try.underlying154, run_underlying Try.underlying3, go_sem]
 exact h 9998
theorem spot_key : EqKey Try.prog 154 spotK := ⟨spot_eq, spot_check, spot_bits, _, Try.underlying154⟩
theorem zero3 (w : World) : (zeroValue 3).run Try.prog w = .ok (vi 0) w := by kernel_rfl
structure RP where
 s : Sm
 f : Int
 t : Option Bool
 z : Nat
 xb : Nat
 tb : Nat
 mb : Nat
 kb : Nat
 pb : Nat
 fb : Nat
 B : Nat
structure RpOk (T : RP) : Prop where
 sd : SdOk T.s.sd
 f0 : 0 <= T.f
 f1 : T.f <= 10001
 zl : T.z < T.s.cs.length
 xm : T.xb ≠ T.mb
 tm : T.tb ≠ T.mb
 km : T.kb ≠ T.mb
 pm : T.pb ≠ T.mb
 fm : T.fb ≠ T.mb
 bm : T.B <= T.mb
abbrev rpA (T : RP) : Array Value := #[.pointer (some ⟨T.tb, 0, none⟩), .pointer (some ⟨T.pb, 0, none⟩), .pointer (some ⟨T.kb, 0, none⟩), .pointer (some ⟨T.xb, 0, none⟩), .pointer (some ⟨T.fb, 0, none⟩)]
def RP.c (T : RP) : Nat -> Nat -> Int := cF (hT T.t T.s.sd) (dAt T.s.sd) T.f
def RP.n (T : RP) : Nat := T.s.sd.n
structure SmAt (s : Sm) (W : World) (B : Nat) : Prop where
 cs : Row clL 1 W B s.a s.cs
 bd : ∀ x ∈ s.cs, Row bdL 8 W B x.a x.beds
 le : B <= W.heap.size
theorem Row.same {α : Type} {enc : α -> List Value} {s B : Nat} {w W : World} {A : Option Addr} {l : List α} (h : Row enc s w B A l) (hs : ∀ k, k < B -> W.heap[k]? = w.heap[k]?) : Row enc s W B A l := by
 intro hl
 obtain ⟨b, off, e, hb, hc⟩ := h hl
 exact ⟨b, off, e, hb, fun k x hk j v hj => (cell_of_same (hs b hb) _).trans (hc k x hk j v hj)⟩
theorem SmAt.ok {s : Sm} {W : World} {B : Nat} (h : SmAt s W B) : SmOk s W := ⟨h.cs.more h.le, fun x hx => (h.bd x hx).more h.le⟩
theorem SmAt.same {s : Sm} {W W' : World} {B : Nat} (h : SmAt s W B) (hs : ∀ k, k < B -> W'.heap[k]? = W.heap[k]?) (hl : W.heap.size <= W'.heap.size) : SmAt s W' B := ⟨h.cs.same hs, fun x hx => (h.bd x hx).same hs, Nat.le_trans h.le hl⟩
theorem SmOk.at {s : Sm} {W : World} (h : SmOk s W) : SmAt s W W.heap.size := ⟨h.cs, h.bd, Nat.le_refl _⟩
structure RsM (T : RP) (lp : List ((Int × Int) × Int)) (W : World) : Prop where
 xl : Whole W T.xb 88 (lkC T.s T.f T.t)
 tl : Whole W T.tb 3 #[vi T.z]
 kl : Whole W T.kb 150 #[.map (some T.mb)]
 pl : Whole W T.pb 151 #[.func (.func 77) #[lkV T.s T.f T.t] #[]]
 fl : Whole W T.fb 152 #[.func (.func 78) #[] (rpA T)]
 mm : RMap spotK evI T.mb lp W
 at_ : SmAt T.s W T.B
def Good (T : RP) (lp : List ((Int × Int) × Int)) : Prop := ∀ p ∈ lp, ∃ c b : Nat, p.1 = ((c : Int), (b : Int)) /\ c <= T.z /\ p.2 = restN T.c T.n bigN (T.z - c) c b
section
variable {T : RP} {lp : List ((Int × Int) × Int)} {W W' : World}
theorem RsM.next (h : RsM T lp W) (hb : newer W W') : RsM T lp W' :=
 ⟨h.xl.below hb h.xl.lt, h.tl.below hb h.tl.lt, h.kl.below hb h.kl.lt, h.pl.below hb h.pl.lt, h.fl.below hb h.fl.lt, h.mm.below hb h.mm.lt, h.at_.same (fun k hk => hb.block k (Nat.lt_of_lt_of_le hk h.at_.le)) hb.size⟩
theorem RsM.put (hT : RpOk T) (h : RsM T lp W) (lp' : List ((Int × Int) × Int)) : RsM T lp' (Go.ChangeMaps.setBlock W T.mb (.map (ents spotK evI lp') lp'.length)) := by
 refine ⟨h.xl.setBlock hT.xm _, h.tl.setBlock hT.tm _, h.kl.setBlock hT.km _, h.pl.setBlock hT.pm _, h.fl.setBlock hT.fm _, h.mm.put, h.at_.same (fun k hk => setBlock_get_ne _ (by have := hT.bm; omega)) (by simp [Go.ChangeMaps.setBlock])⟩
theorem good_put (h : Good T lp) {c b : Nat} {v : Int} (hc : c <= T.z) (hv : v = restN T.c T.n bigN (T.z - c) c b) : Good T (putR ((c : Int), (b : Int)) v lp) := by
 intro p hp
 unfold putR at hp
 have key : p ∈ lp ∨ p = (((c : Int), (b : Int)), v) := by
  split at hp
  ·rcases List.mem_or_eq_of_mem_set hp with h1 | h1
   ·exact .inl h1
   ·exact .inr h1
  ·rcases List.mem_append.1 hp with h1 | h1
   ·exact .inl h1
   ·exact .inr (List.mem_singleton.1 h1)
 rcases key with h1 | h1
 ·exact h p h1
 ·exact ⟨c, b, by rw [h1], hc, by rw [h1]; exact hv⟩
theorem good_look (h : Good T lp) {c b i : Nat} {v : Int} (ha : atR ((c : Int), (b : Int)) lp 0 = some (i, v)) : v = restN T.c T.n bigN (T.z - c) c b := by
 obtain ⟨_, h2⟩ := atR_some ha
 obtain ⟨c', b', h3, _, h5⟩ := h _ (List.mem_of_getElem? h2)
 simp only [Prod.mk.injEq] at h3
 have e1 : c' = c := by omega
 have e2 : b' = b := by omega
 subst e1
 subst e2
 exact h5
end
section
variable {T : RP} {lp : List ((Int × Int) × Int)} {W W' : World}
theorem RsM.far (h : RsM T lp W) {d : Nat} (hg : W.grownBy W' (some d)) (h1 : T.xb ≠ d) (h2 : T.tb ≠ d) (h3 : T.kb ≠ d) (h4 : T.pb ≠ d) (h5 : T.fb ≠ d) (h6 : T.mb ≠ d) (h7 : T.B <= d) : RsM T lp W' := by
 have ne : ∀ {k : Nat}, k ≠ d -> some k ≠ some d := fun h e => h (by injection e)
 exact ⟨h.xl.grown hg (ne h1), h.tl.grown hg (ne h2), h.kl.grown hg (ne h3), h.pl.grown hg (ne h4), h.fl.grown hg (ne h5), h.mm.same (hg.block _ h.mm.lt (ne h6)), h.at_.same (fun k hk => hg.block k (Nat.lt_of_lt_of_le hk h.at_.le) (ne (by omega))) hg.size⟩
theorem grown_setBlock (W : World) (b : Nat) (o : Obj) : W.grownBy (Go.ChangeMaps.setBlock W b o) (some b) :=
 ⟨rfl, rfl, rfl, by simp [Go.ChangeMaps.setBlock], fun k _ hk => setBlock_get_ne o (fun e => hk (by rw [e]))⟩
theorem hT_at (t : Option Bool) (s : Sd) {k j : Nat} {b : Bd} (h : bedAt s.cols k j = some b) : hT t s k j = holdsN b (trR t b) := by
 match t with
 | some hi => simp only [hT, hAt, trR, h]
 | none => simp [hT, trR, holdsN]
theorem c_is {k j : Nat} {b : Bd} (h : bedAt T.s.sd.cols k j = some b) : T.c k j = costB T.f T.t b := by
 unfold RP.c cF costB
 rw [hT_at T.t T.s.sd h]
 simp only [dAt, h]
theorem sm_bed {s : Sm} (h : SdOk s.sd) {k j : Nat} (hk : k < s.cs.length) (hj : j < s.sd.n) : ∃ x b, s.cs[k]? = some x /\ x.beds[j]? = some b /\ x.beds.length = s.sd.n /\ bedAt s.sd.cols k j = some b /\ bdB b = true := by
 obtain ⟨x, hx⟩ := get_of_lt hk
 have hm : x.beds ∈ s.sd.cols := List.mem_map.2 ⟨x, List.mem_of_getElem? hx, rfl⟩
 have hl := h.len _ hm
 obtain ⟨b, hb⟩ := get_of_lt (l := x.beds) (k := j) (by omega)
 refine ⟨x, b, hx, hb, hl, ?_, h.bd _ hm b (List.mem_of_getElem? hb)⟩
 have e : s.sd.cols[k]? = some x.beds := by simp [Sm.sd, hx]
 simp only [bedAt, e, hb]
theorem price_any (hT : RpOk T) (hok : SmOk T.s W) {k j : Nat} (hk : k <= T.z) (hj : j < T.n) : Calls Try.prog 77 #[lkV T.s T.f T.t, vi k, vi j] W fun e w' => e = .returned (vi (T.c k j)) /\ newer W w' := by
 obtain ⟨x, b, h1, h2, _, h4, h5⟩ := sm_bed hT.sd (k := k) (j := j) (by have := hT.zl; omega) hj
 rw [c_is h4]
 exact cost_any T.s T.f T.t k j x b W hok h1 h2 h5 hT.f0 hT.f1
theorem ok_of (hT' : RpOk T) : HdOk (hT T.t T.s.sd) (dAt T.s.sd) T.n T.s.cs.length T.s.sd.K := by
 match ht : T.t with
 | some _ =>
  have h := hd_ok hT'.sd false
  rw [sd_len] at h
  exact h
 | none =>
  have h := zero_ok (hd_ok hT'.sd false)
  rw [sd_len] at h
  exact h
end
def RestC (T : RP) (m : Nat) : Prop := ∀ (c b : Nat) (lp : List ((Int × Int) × Int)) (W : World), c + m = T.z -> b < T.n -> RsM T lp W -> Good T lp ->
 Calls Try.prog 78 (#[.agg #[vi c, vi b]] ++ rpA T) W fun e W' => e = .returned (vi (restN T.c T.n bigN m c b)) /\ ∃ lp', RsM T lp' W' /\ Good T lp' /\ W.grownBy W' (some T.mb)
end

section
open Go.RowKit Go.Shelf Go.Deep
structure RsJ (T : RP) (c b sb nb bb lb D : Nat) (n : Int) (r : Loop) (w W : World) : Prop where
 me : ∃ lp, RsM T lp W /\ Good T lp
 sp : Whole W sb 154 #[vi c, vi b]
 nx : Whole W nb 3 #[vi n]
 bx : Whole W bb 3 #[vi b]
 lx : Whole W lb 88 (lkC T.s T.f T.t)
 df : W.heap[D]? = some (.deferred (some []))
 lo : W.heap[D + 1]? = some (.loop r)
 gr : w.grownBy W (some T.mb)
 ml : T.mb < sb
 so : sb = w.heap.size /\ sb < nb /\ nb < lb /\ lb < bb /\ bb < D
section
variable {T : RP} {c b sb nb bb lb D : Nat} {n : Int} {r : Loop} {w W W' : World}
theorem RsJ.next (h : RsJ T c b sb nb bb lb D n r w W) (hb : newer W W') : RsJ T c b sb nb bb lb D n r w W' := by
 obtain ⟨lp, h1, h2⟩ := h.me
 exact ⟨⟨lp, h1.next hb, h2⟩, h.sp.below hb h.sp.lt, h.nx.below hb h.nx.lt, h.bx.below hb h.bx.lt, h.lx.below hb h.lx.lt, (hb.block _ (Array.getElem?_eq_some_iff.1 h.df).1).trans h.df, (hb.block _ (Array.getElem?_eq_some_iff.1 h.lo).1).trans h.lo, grown_below h.gr hb, h.ml, h.so⟩
theorem RsJ.back (h : RsJ T c b sb nb bb lb D n r w W) (hg : W.grownBy W' (some T.mb)) (hm : ∃ lp, RsM T lp W' /\ Good T lp) : RsJ T c b sb nb bb lb D n r w W' := by
 have h1 := h.so
 have h2 := h.ml
 have ne : ∀ {k : Nat}, T.mb < k -> some k ≠ some T.mb := fun h e => by injection e; omega
 exact ⟨hm, h.sp.grown hg (ne h2), h.nx.grown hg (ne (by omega)), h.bx.grown hg (ne (by omega)), h.lx.grown hg (ne (by omega)), (hg.block _ (Array.getElem?_eq_some_iff.1 h.df).1 (ne (by omega))).trans h.df, (hg.block _ (Array.getElem?_eq_some_iff.1 h.lo).1 (ne (by omega))).trans h.lo, grown_trans h.gr hg, h.ml, h.so⟩
end
structure RpLt (T : RP) (q : Nat) : Prop where
 x : T.xb < q
 t : T.tb < q
 k : T.kb < q
 p : T.pb < q
 f : T.fb < q
 m : T.mb < q
theorem RsM.lts {T : RP} {lp : List ((Int × Int) × Int)} {W : World} (h : RsM T lp W) : RpLt T W.heap.size := ⟨h.xl.lt, h.tl.lt, h.kl.lt, h.pl.lt, h.fl.lt, h.mm.lt⟩
section
variable {T : RP} {c b sb nb bb lb D : Nat} {n : Int} {r : Loop} {w W W' : World}
theorem RsJ.put (hT : RpOk T) (hl : RpLt T w.heap.size) (h : RsJ T c b sb nb bb lb D n r w W) (r' : Loop) : RsJ T c b sb nb bb lb D n r' w (W.putObj (D + 1) (.loop r')) := by
 obtain ⟨lp, h1, h2⟩ := h.me
 have h3 := h.so
 have h4 := hl.x
 have h5 := hl.t
 have h6 := hl.k
 have h7 := hl.p
 have h8 := hl.f
 have h9 := hl.m
 have hB := hT.bm
 have hD := (Array.getElem?_eq_some_iff.1 h.lo).1
 exact ⟨⟨lp, h1.far (grown_putL _ _ _) (by omega) (by omega) (by omega) (by omega) (by omega) (by omega) (by omega), h2⟩, h.sp.put (by omega) _, h.nx.put (by omega) _, h.bx.put (by omega) _, h.lx.put (by omega) _, (World.putObj_heap_other (by omega)).trans h.df, World.putObj_heap_same hD, grown_put h.gr (by omega) _, h.ml, h.so⟩
theorem RsJ.set (hT : RpOk T) (hl : RpLt T w.heap.size) (h : RsJ T c b sb nb bb lb D n r w W) (v : Int) : RsJ T c b sb nb bb lb D v r w (W.setCell ⟨nb, 0, none⟩ (vi v)) := by
 obtain ⟨lp, h1, h2⟩ := h.me
 have h3 := h.so
 have h4 := hl.x
 have h5 := hl.t
 have h6 := hl.k
 have h7 := hl.p
 have h8 := hl.f
 have h9 := hl.m
 have hB := hT.bm
 have hg : W.grownBy (W.setCell ⟨nb, 0, none⟩ (vi v)) (some nb) := grown_set (p := ⟨nb, 0, none⟩) (grown_refl W (some nb)) (.inl rfl) _
 have ne : ∀ {k : Nat}, k ≠ nb -> some k ≠ some nb := fun h e => h (by injection e)
 exact ⟨⟨lp, h1.far hg (by omega) (by omega) (by omega) (by omega) (by omega) (by omega) (by omega), h2⟩, h.sp.grown hg (ne (by omega)), h.nx.set 0 (vi v), h.bx.grown hg (ne (by omega)), h.lx.grown hg (ne (by omega)), (hg.block _ (Array.getElem?_eq_some_iff.1 h.df).1 (ne (by omega))).trans h.df, (hg.block _ (Array.getElem?_eq_some_iff.1 h.lo).1 (ne (by omega))).trans h.lo, grown_set (p := ⟨nb, 0, none⟩) h.gr (.inr (by show w.heap.size <= nb; omega)) _, h.ml, h.so⟩
end
def vTwo (B m : Nat) (x y : Int) (v : Value) (W : World) : Prop := ∃ q, v = .slice (some ⟨q, 0, none⟩) 2 2 /\ B <= q /\ m < q /\ Whole W q 3 #[vi x, vi y]
theorem vTwo_st {B m : Nat} {x y : Int} : ∀ v W W', vTwo B m x y v W -> W.grownBy W' (some m) -> vTwo B m x y v W' := fun _ _ _ ⟨q, h1, h2, h3, h4⟩ hb => ⟨q, h1, h2, h3, h4.grown hb (fun e => by injection e; omega)⟩
theorem minL_snoc (z : Int) (l : List Int) (x : Int) : minL z (l ++ [x]) = mnI (minL z l) x := by simp [minL]
theorem near_take (n b k : Nat) (f : Nat -> Int) (hk : k < cntN n b) : minL bigN (((nearL n b).take (k + 1)).map f) = mnI (minL bigN (((nearL n b).take k).map f)) (f (loN b + k)) := by
 rw [near_is, List.take_add_one, List.getElem?_range' hk, List.map_append, Option.toList_some, List.map_cons, List.map_nil, minL_snoc, Nat.one_mul]
theorem minL_bd {l : List Int} {z lo : Int} (h : ∀ x ∈ l, lo <= x) (hz : lo <= z) : lo <= minL z l := by
 rcases minL_mem l z with e | e
 ·omega
 ·exact h _ e
theorem rest_bd {c : Nat -> Nat -> Int} {n : Nat} (hc : ∀ k b, -1300100000 <= c k b /\ c k b <= 1300100000) : ∀ (m k b : Nat), m < 20 -> -(((m : Int) + 1) * 1300100000) <= restN c n bigN m k b /\ restN c n bigN m k b <= bigN + 1300100000 := by
 intro m
 induction m with
 | zero =>
  intro k b _
  have := hc k b
  simp only [restN, bigN]
  omega
 | succ m ih =>
  intro k b hm
  have h1 := hc k b
  have h2 : minL bigN ((nearL n b).map (restN c n bigN m (k + 1))) <= bigN := (minL_le _ _).1
  have h3 : -(((m : Int) + 1) * 1300100000) <= minL bigN ((nearL n b).map (restN c n bigN m (k + 1))) := by
   refine minL_bd ?_ (by simp only [bigN]; omega)
   intro x hx
   obtain ⟨y, _, rfl⟩ := List.mem_map.1 hx
   exact (ih (k + 1) y (by omega)).1
  simp only [restN]
  simp only [bigN] at h2 h3 ⊢
  omega
theorem mem_put (a : Int × Int) (v : Int) (l : List ((Int × Int) × Int)) : (a, v) ∈ putR a v l := by
 unfold putR
 split
 ·rename_i i p h
  have h2 := (atR_some h).2
  have h3 := (List.getElem?_eq_some_iff.1 h2).1
  exact List.mem_iff_getElem?.2 ⟨i, by rw [List.getElem?_set_self (by omega)]⟩
 ·simp
theorem look_put (a : Int × Int) (v : Int) (l : List ((Int × Int) × Int)) : ∃ iv, atR a (putR a v l) 0 = some iv := by
 cases h : atR a (putR a v l) 0 with
 | some iv => exact ⟨iv, rfl⟩
 | none => exact absurd rfl (atR_none h _ (mem_put a v l))
theorem vIsG {v : Value} {m : Nat} : ∀ (x : Value) (W W' : World), vIs v x W -> W.grownBy W' (some m) -> vIs v x W' := fun _ _ _ h _ => h
theorem newer_drew_ (w : World) : newer w w.drew := (Below.refl _ w).drew
theorem near_all (n b : Nat) : (nearL n b).take (cntN n b) = nearL n b := by
 rw [near_is]
 exact List.take_of_length_le (by simp)
set_option maxRecDepth 100000 in
set_option maxHeartbeats 1000000 in
theorem recur_step (T : RP) (hT : RpOk T) (m : Nat) (IH : ∀ m', m = m' + 1 -> RestC T m') : RestC T m := by
 intro c b lp w hcm hb hm hg
 have HG := Lib.hid hg
 have hlt := hm.lts
 have HLT := Lib.hid hlt
 have HIH := Lib.hid IH
 have h1 := newer_allocH w (.cells #[vi c, vi b] 154)
 have HF := Lib.hid (And.intro (hm.next h1) (And.intro (Whole.made w 154 #[vi c, vi b]) h1))
 clear hg hm hlt h1 IH
 refine callsIn_wide.1 (callsIn_of_wp_marks (n := 9) Try.func78 rfl trivial ?_ rfl)
 simp only [Try.ntmps78, List.size_toArray, List.length_cons, List.length_nil, Nat.reduceAdd, Nat.reduceSub, Array.replicate_succ, Array.replicate_zero, List.push_toArray, List.append_toArray, List.nil_append, List.cons_append]
 refine wpIn_wide.2 ?_
 go_upto_region 1 with fail
 refine genQ (fun X => RsM T lp X /\ Whole X w.heap.size 154 #[vi c, vi b] /\ newer w X) HF.out ?_
 clear HF
 obtain ⟨sb, hsb⟩ : ∃ sb, sb = w.heap.size := ⟨_, rfl⟩
 have HSB := Lib.hid hsb
 rw [<- hsb]
 clear hsb
 rintro w1 ⟨hm1, hs1, hn1⟩
 have H1 := Lib.hid (And.intro hm1 (And.intro hs1 hn1))
 have s0 := hs1.at 0 (v := vi c) rfl
 have s1 := hs1.at 1 (v := vi b) rfl
 have t0 := hm1.tl.at 0 (v := vi T.z) rfl
 have k0 := hm1.kl.at 0 (v := .map (some T.mb)) rfl
 have p0 := hm1.pl.at 0 (v := .func (.func 77) #[lkV T.s T.f T.t] #[]) rfl
 have HPR := Lib.hid (fun (W : World) (h : SmOk T.s W) => price_any (W := W) hT h (k := c) (j := b) (by omega) hb)
 clear hm1 hs1 hn1
 cases m with
 | zero =>
  obtain rfl : c = T.z := by omega
  go_wp2_with fail
  refine (HPR.out _ H1.out.1.at_.ok).mono ?_
  rintro e w2 ⟨rfl, hb2⟩
  have HB := Lib.hid (And.intro (H1.out.1.next hb2) (newer_trans H1.out.2.2 hb2))
  clear hb2
  go_wp2_with fail
  exact ⟨_, by simp [results, Try.results78, go_sem]; rfl, rfl, lp, HB.out.1, HG.out, grown_of_newer HB.out.2 _⟩
 | succ m' =>
  have HIR := Lib.hid (HIH.out m' rfl)
  have hne : ((c : Int) == T.z) = false := by rw [beq_eq_false_iff_ne]; omega
  have HZ := Lib.hid (show T.z - c = m' + 1 by omega)
  clear HIH
  cases ha : atR ((c : Int), (b : Int)) lp 0 with
  | some iv =>
   obtain ⟨i, v⟩ := iv
   have HH := Lib.hid ha
   have HV := Lib.hid (good_look HG.out ha)
   clear ha
   go_wp2_with (at_lookup; refine wpList_lookup_r _ rfl _ _ 150 true rfl spot_key Try.underlying150 (zero3 _) T.mb lp rfl H1.out.1.mm ((c : Int), (b : Int)) rfl ?_; simp only [HH.out, Option.map_some, Option.getD_some, Option.isSome_some, if_true])
   exact ⟨_, by simp [results, Try.results78, go_sem]; rfl, by rw [HV.out, HZ.out], lp, H1.out.1, HG.out, grown_of_newer H1.out.2.2 _⟩
  | none =>
   have HH := Lib.hid ha
   clear ha
   go_upto_region 7 with (at_lookup; refine wpList_lookup_r _ rfl _ _ 150 true rfl spot_key Try.underlying150 (zero3 _) T.mb lp rfl H1.out.1.mm ((c : Int), (b : Int)) rfl ?_; simp only [HH.out, Option.map_none, Option.getD_none, Option.isSome_none, if_true])
   have hn0 : newer w1 (w1.alloc (.cells #[vi bigN] 3)) := newer_allocH _ _
   have HN := Lib.hid (show RsM T lp (w1.alloc (.cells #[vi bigN] 3)) /\ Whole (w1.alloc (.cells #[vi bigN] 3)) sb 154 #[vi c, vi b] /\ Whole (w1.alloc (.cells #[vi bigN] 3)) w1.heap.size 3 #[vi bigN] /\ newer w (w1.alloc (.cells #[vi bigN] 3)) from ⟨H1.out.1.next hn0, H1.out.2.1.below hn0 H1.out.2.1.lt, Whole.made _ _ _, newer_trans H1.out.2.2 hn0⟩)
   clear hn0 HH s0 s1 t0 k0 p0
   have HNB := Lib.hid (show sb < w1.heap.size from H1.out.2.1.lt)
   clear H1
   refine genQ (fun X => RsM T lp X /\ Whole X sb 154 #[vi c, vi b] /\ Whole X w1.heap.size 3 #[vi bigN] /\ newer w X) HN.out ?_
   clear HN
   obtain ⟨nb, hnb⟩ : ∃ nb, nb = w1.heap.size := ⟨_, rfl⟩
   rw [<- hnb] at HNB ⊢
   clear hnb
   rintro w2 ⟨hm2, hs2, hb2, hn2⟩
   have s1 := hs2.at 1 (v := vi b) rfl
   have l0 := hm2.xl.at 0 (v := .slice T.s.a T.s.cs.length T.s.c) rfl
   have l1 := hm2.xl.at 1 (v := vi T.s.least) rfl
   have l2 := hm2.xl.at 2 (v := vi T.f) rfl
   have l3 := hm2.xl.at 3 (v := .func (.func (trF T.t)) #[] #[]) rfl
   have H2 := Lib.hid (And.intro hm2 (And.intro hs2 (And.intro hb2 hn2)))
   clear hm2 hs2 hb2 hn2
   go_wp2_with fail
   refine (next_any T.s T.f T.t b _).mono ?_
   rintro e w6 ⟨rfl, hw6⟩
   have HX6 : Hid (RsM T lp w6 /\ Whole w6 sb 154 #[vi c, vi b] /\ Whole w6 nb 3 #[vi bigN] /\ newer w w6 /\ Whole w6 (w2.heap.size + 1) 3 #[vi b] /\ Whole w6 w2.heap.size 88 (lkC T.s T.f T.t) /\ nb < w2.heap.size) := Lib.hid (by
    have e1 : newer w2 (w2.alloc (.cells (lkC T.s T.f T.t) 88)) := newer_allocH _ _
    have e2 : newer (w2.alloc (.cells (lkC T.s T.f T.t) 88)) w6 := hw6 ▸ newer_allocH _ _
    have e3 := newer_trans e1 e2
    obtain ⟨a1, a2, a3, a4⟩ := H2.out
    refine ⟨a1.next e3, a2.below e3 a2.lt, a3.below e3 a3.lt, newer_trans a4 e3, ?_, ?_, a3.lt⟩
    ·rw [<- hw6]
     have e5 := Whole.made (w2.alloc (.cells (lkC T.s T.f T.t) 88)) 3 #[vi b]
     rw [World.size_alloc] at e5
     exact e5
    ·have e4 := Whole.made w2 88 (lkC T.s T.f T.t)
     exact e4.below e2 e4.lt)
   obtain ⟨lb, hlb⟩ : ∃ lb, lb = w2.heap.size := ⟨_, rfl⟩
   rw [<- hlb] at HX6 ⊢
   clear hlb hw6 H2 s1 l0 l1 l2 l3
   obtain ⟨x, _, hx, _, hxl, _, _⟩ := sm_bed hT.sd (k := 0) (j := b) (by have := hT.zl; omega) hb
   have HNN := Lib.hid (show x.beds.length = T.n from hxl)
   have hxn : x.beds.length <= 1000 := by have := hT.sd.beds; omega
   go_wp2_with fail
   refine (wpIn_wide (n := 9)).1 (range_law (gf := 95) (lb := #[.pointer (some ⟨lb + 1, 0, none⟩), .pointer (some ⟨lb, 0, none⟩)]) rfl (enters_of Try.func95 (by kernel_rfl) rfl) ?_)
   intro r0 r1 r2 r3 r4 r5 r6
   refine (callsIn_wide.1 (next_in 8 (w6.heap.size + 1) (lb + 1) lb T.s T.f T.t x b hx (by rw [HNN.out]; exact hb) hxn (fun k W => RsJ T c b sb nb (lb + 1) lb w6.heap.size (minL bigN (((nearL T.n b).take k).map (restN T.c T.n bigN m' (c + 1)))) r0 w W) ?hJ ?hN ?hY _ ?h0)).mono ?_
   case hJ => 
    intro k W hj
    obtain ⟨_, g1, _⟩ := hj.me
    exact ⟨hj.bx, hj.lx, g1.at_.ok⟩
   case hN => exact fun k W W' hj hb => hj.next hb
   case h0 =>
    have e1 := newer_trans (newer_allocH w6 (.deferred (some []))) (newer_allocH (w6.alloc (.deferred (some []))) (.loop r0))
    obtain ⟨a1, a2, a3, a4, a5, a6, a7⟩ := HX6.out
    have b1 := HSB.out
    have b2 := HLT.out.m
    have b3 := HNB.out
    have b4 := a5.lt
    refine ⟨⟨lp, a1.next e1, HG.out⟩, a2.below e1 a2.lt, a3.below e1 a3.lt, a5.below e1 a5.lt, a6.below e1 a6.lt, ?_, ?_, grown_of_newer (newer_trans a4 e1) _, by omega, by omega⟩
    ·simp only [heap_if, World.size_alloc]
     repeat rw [if_neg (by omega)]
     rfl
    ·simp only [heap_if, World.size_alloc]
     repeat rw [if_neg (by omega)]
     rfl
   case hY =>
    intro k W hk hj
    rw [show ((loN b : Nat) : Int) + (k : Int) = ((loN b + k : Nat) : Int) from rfl]
    rw [HNN.out] at hk
    rw [near_take T.n b k _ hk]
    obtain ⟨rv, hrv⟩ : ∃ rv, rv = restN T.c T.n bigN m' (c + 1) (loN b + k) := ⟨_, rfl⟩
    have HRV := Lib.hid hrv
    rw [<- hrv]
    clear hrv
    have hkn : loN b + k < T.n := by
     unfold cntN at hk
     unfold loN
     omega
    obtain ⟨nk, hnk⟩ : ∃ nk, nk = minL bigN (((nearL T.n b).take k).map (restN T.c T.n bigN m' (c + 1))) := ⟨_, rfl⟩
    rw [<- hnk] at hj ⊢
    clear hnk
    refine yield_round (r := r0) hj.lo r1 r2 (by rw [r4]; rfl) ?_
    rw [r3, r4, r5, r6]
    simp only [List.zip_toArray, List.zip_cons_cons, List.zip_nil_right, List.foldl_toArray, List.foldl_cons, List.foldl_nil, List.setIfInBounds_toArray, List.set_cons_zero, List.set_cons_succ]
    gi_wp2_with fail
    refine ⟨hj.lo, ?_⟩
    have hj5 := hj.put hT HLT.out (busyOf r0)
    obtain ⟨w7, hw7⟩ : ∃ w7, w7 = W.putObj (w6.heap.size + 1) (.loop (busyOf r0)) := ⟨_, rfl⟩
    rw [<- hw7] at hj5 ⊢
    clear hw7 hj W
    obtain ⟨bb, hbb⟩ : ∃ bb, bb = lb + 1 := ⟨_, rfl⟩
    obtain ⟨D, hD⟩ : ∃ D, D = w6.heap.size := ⟨_, rfl⟩
    rw [<- hbb, <- hD] at hj5 ⊢
    have HJ := Lib.hid hj5
    have c39 : IntKind.i64.wrap ((c : Int) + 1) = ((c + 1 : Nat) : Int) := IntWalk.i64_in _ (by have := hT.zl; have := hT.sd.cols; have := sd_len (s := T.s); omega)
    clear hj5 r1 r2 r3 r4 r5 r6 hbb hD HX6
    gi_wp2_with fail
    refine round_words (by kernel_rfl) (by kernel_rfl) (fun _ _ h => h) (region_told 10 (by kernel_rfl) (by kernel_rfl) (RsJ T c b sb nb bb lb D nk (busyOf r0) w) (fun A B => A.grownBy B (some T.mb)) (pickD [vIs (vi nk), vIs (.func (.func 78) #[] (rpA T)), vIs (.pointer (some ⟨sb, 0, none⟩)), vIs (vi c), vIs (vi (c + 1 : Nat)), vIs (vi (loN b + k : Nat)), vIs (.agg #[vi (c + 1 : Nat), vi (loN b + k : Nat)]), vIs (vi rv), vTwo w7.heap.size T.mb nk rv, vIs (vi (mnI nk rv))]) (fun h k => grown_trans h k) (pickD_stable _ ⟨vIsG, vIsG, vIsG, vIsG, vIsG, vIsG, vIsG, vIsG, vTwo_st, vIsG, trivial⟩) (HJ.out.next (newer_drew_ _)) (grown_refl _ _) ?_ ?_)
    ·refine ⟨?_, ?_, ?_, ?_, ?_, ?_, ?_, ?_, ?_, ?_, trivial⟩
     ·intro a W hG hR hO hp; have h10 := hO.slot 10 (by kernel_rfl); have c0 := hG.nx.at 0 (v := vi nk) rfl; refine wp_yields (v := vi nk) ?_ ⟨_, rfl, rfl, grown_refl _ _, hG⟩; simp [slotOf] at h10; simp [execOp, go_sem, h10, c0]
     ·intro a W hG hR hO hp; have h5 := hO.slot 5 (by kernel_rfl); obtain ⟨lp, hM, hgd⟩ := hG.me; have c0 := hM.fl.at 0 (v := .func (.func 78) #[] (rpA T)) rfl; refine wp_yields (v := .func (.func 78) #[] (rpA T)) ?_ ⟨_, rfl, rfl, grown_refl _ _, hG⟩; simp [slotOf] at h5; simp [execOp, go_sem, h5, c0]
     ·intro a W hG hR hO hp; have h6 := hO.slot 6 (by kernel_rfl); refine wp_yields (v := .pointer (some ⟨sb, 0, none⟩)) ?_ ⟨_, rfl, rfl, grown_refl _ _, hG⟩; simp [slotOf] at h6; simp [execOp, go_sem, h6]
     ·intro a W hG hR hO hp; have h37 : slotOf a 37 = .pointer (some ⟨sb, 0, none⟩) := hp.1; have c0 := hG.sp.at 0 (v := vi c) rfl; refine wp_yields (v := vi c) ?_ ⟨_, rfl, rfl, grown_refl _ _, hG⟩; simp [slotOf] at h37; simp [execOp, go_sem, h37, c0]
     ·intro a W hG hR hO hp; have h38 : slotOf a 38 = vi c := hp.1; refine wp_yields (v := vi (c + 1 : Nat)) ?_ ⟨_, rfl, rfl, grown_refl _ _, hG⟩; simp [slotOf] at h38; simp [execOp, go_sem, h38, c39]
     ·intro a W hG hR hO hp; have h11 := hO.slot 11 (by kernel_rfl); refine wp_yields (v := vi (loN b + k : Nat)) ?_ ⟨_, rfl, rfl, grown_refl _ _, hG⟩; simp [slotOf] at h11; simp [execOp, go_sem, h11]
     ·intro a W hG hR hO hp; have h39 : slotOf a 39 = vi (c + 1 : Nat) := hp.1; have h40 : slotOf a 40 = vi (loN b + k : Nat) := hp.2.1; refine wp_yields (v := .agg #[vi (c + 1 : Nat), vi (loN b + k : Nat)]) ?_ ⟨_, rfl, rfl, grown_refl _ _, hG⟩; simp [slotOf] at h39 h40; simp [execOp, go_sem, h39, h40]
     ·intro a W hG hR hO hp
      have h36 : slotOf a 36 = .func (.func 78) #[] (rpA T) := hp.1
      have h41 : slotOf a 41 = .agg #[vi (c + 1 : Nat), vi (loN b + k : Nat)] := hp.2.1
      obtain ⟨lp, hM, hgd⟩ := hG.me
      have hcc := HIR.out (c + 1) (loN b + k) lp W (by omega) (by omega) hM hgd
      rw [<- HRV.out] at hcc
      obtain ⟨ar, har⟩ : ∃ ar, ar = #[.agg #[vi (c + 1 : Nat), vi (loN b + k : Nat)]] ++ rpA T := ⟨_, rfl⟩
      rw [<- har] at hcc
      refine wp_enters (f := 78) (args := ar) ?_ (hcc.mono ?_)
      ·simp [slotOf] at h36 h41
       rw [har]
       simp [execOp, go_sem, h36, h41]
      ·rintro e w' ⟨rfl, lp2, g1, g2, g3⟩
       exact ⟨_, rfl, _, rfl, rfl, g3, hG.back g3 ⟨lp2, g1, g2⟩⟩
     ·intro a W hG hR hO hp
      have h35 : slotOf a 35 = vi nk := hp.1
      have h42 : slotOf a 42 = vi rv := hp.2.1
      refine wp_makes (v := .slice (some ⟨W.heap.size, 0, none⟩) 2 2) (W' := W.alloc (.cells #[vi nk, vi rv] 3)) ?_ ⟨_, rfl, ⟨W.heap.size, rfl, Nat.le_trans (Nat.le_refl _) hR.size, ?_, Whole.made _ _ _⟩, grown_alloc (grown_refl _ _) _, hG.next (newer_allocH _ _)⟩
      ·simp [slotOf] at h35 h42
       simp [execOp, go_sem, h35, h42]
      ·have h1 := hG.sp.lt
       have h2 := hG.ml
       omega
     ·intro a W hG hR hO hp
      have h43 := hp.1
      obtain ⟨q, h43, hq1, hq2, hq3⟩ := h43
      refine wp_enters (f := 80) (args := #[.slice (some ⟨q, 0, none⟩) 2 2]) ?_ ((least2_any nk rv q 2 W hq3).mono ?_)
      ·simp [slotOf] at h43
       simp [go_sem, h43]
      ·rintro e w' ⟨rfl, rfl⟩
       exact ⟨_, rfl, _, rfl, rfl, grown_refl _ _, hG⟩
    ·intro W hG hR
     rintro _ rfl _ rfl _ rfl _ rfl _ rfl _ rfl _ rfl _ rfl _ hv43 _ rfl
     change wpList _ _ _ _ _ _
     simp only [Act.put, List.setIfInBounds_toArray, List.set_cons_zero, List.set_cons_succ, List.drop_succ_cons, List.drop_zero]
     have n0 := hG.nx.at 0 (v := vi nk) rfl
     have nf := hG.nx.free 0
     have hsc := setCell_same n0
     have hS := hG.set hT HLT.out (mnI nk rv)
     have HX8 := Lib.hid (And.intro hS.lo (hS.put hT HLT.out r0))
     clear hS hG hR
     go_wp2_with fail
     refine onlyN_intro ?_
     gi_wp2_with fail
     exact ⟨HX8.out.1, rfl, HX8.out.2⟩
   ·rintro e W ⟨⟨v, rfl⟩, hj⟩
    refine ⟨⟨_, rfl⟩, .inl ⟨hj.lo, ?_⟩⟩
    rw [HNN.out, near_all] at hj
    obtain ⟨nz, hnz⟩ : ∃ nz, nz = minL bigN ((nearL T.n b).map (restN T.c T.n bigN m' (c + 1))) := ⟨_, rfl⟩
    rw [<- hnz] at hj
    obtain ⟨pc, hpc⟩ : ∃ pc, pc = T.c c b := ⟨_, rfl⟩
    rw [<- hpc] at HPR
    have HVV := Lib.hid (show pc + nz = restN T.c T.n bigN (m' + 1) c b by rw [hpc, hnz]; rfl)
    have c54 : IntKind.i64.wrap (pc + nz) = pc + nz := by
     have h1 : -1300100000 <= T.c c b /\ T.c c b <= 1300100000 := cF_bd (ok_of hT) hT.f0 hT.f1 c b
     rw [<- hpc] at h1
     have h2 : nz <= bigN := hnz ▸ (minL_le _ _).1
     have h3 : -(((m' : Int) + 1) * 1300100000) <= nz := by
      rw [hnz]
      refine minL_bd ?_ (by simp only [bigN]; omega)
      intro x hx
      obtain ⟨y, _, rfl⟩ := List.mem_map.1 hx
      exact (rest_bd (c := T.c) (n := T.n) (fun k b => cF_bd (ok_of hT) hT.f0 hT.f1 k b) m' (c + 1) y (by have := hT.zl; have := hT.sd.cols; have := sd_len (s := T.s); omega)).1
     have h4 : m' < 20 := by have := hT.zl; have := hT.sd.cols; have := sd_len (s := T.s); omega
     simp only [bigN] at h2
     exact IntWalk.i64_in _ (by omega)
    clear hnz hpc
    have HJ := Lib.hid (hj.put hT HLT.out (overOf r0))
    clear hj r1 r2 r3 r4 r5 r6 HX6
    go_upto_region 10 with fail
    obtain ⟨⟨lp2, q1, q2⟩, q3, q4, _, _, q5, _, q6, _, qs⟩ := HJ.out
    have HSO := Lib.hid qs
    have HG2 := Lib.hid q2
    have HJ2 := Lib.hid (And.intro q1 (And.intro q3 (And.intro q4 (And.intro q5 q6))))
    clear q1 q2 q3 q4 q5 q6 qs HJ
    refine genQ (fun X => RsM T lp2 X /\ Whole X sb 154 #[vi c, vi b] /\ Whole X nb 3 #[vi nz] /\ X.heap[w6.heap.size]? = some (.deferred (some [])) /\ w.grownBy X (some T.mb)) HJ2.out ?_
    clear HJ2
    intro we he
    have HE := Lib.hid he
    clear he
    refine wp_words (by kernel_rfl) (region_told 10 (by kernel_rfl) (by kernel_rfl) (fun W => Below we.heap.size we W) newer (pickD [vIs (.map (some T.mb)), vIs (.agg #[vi c, vi b]), vIs (.func (.func 77) #[lkV T.s T.f T.t] #[]), vIs (.pointer (some ⟨sb, 0, none⟩)), vIs (vi c), vIs (.pointer (some ⟨sb, 1, none⟩)), vIs (vi b), vIs (vi pc), vIs (vi nz), vIs (vi (pc + nz))]) (fun h k => newer_trans h k) (pickD_stable _ ⟨vIs_st, vIs_st, vIs_st, vIs_st, vIs_st, vIs_st, vIs_st, vIs_st, vIs_st, vIs_st, trivial⟩) (Below.refl _ we).drew (Below.refl _ _) ?_ ?_)
    ·refine ⟨?_, ?_, ?_, ?_, ?_, ?_, ?_, ?_, ?_, ?_, trivial⟩
     ·intro a W hG hR hO hp; have h3 := hO.slot 3 (by kernel_rfl); have hM := HE.out.1.next hG; have hs := HE.out.2.1.below hG HE.out.2.1.lt; have hn := HE.out.2.2.1.below hG HE.out.2.2.1.lt; have c0 := hM.kl.at 0 (v := .map (some T.mb)) rfl; refine wp_yields (v := .map (some T.mb)) ?_ ⟨_, rfl, rfl, Below.refl _ _, hG⟩; simp [slotOf] at h3; simp [execOp, go_sem, h3, c0]
     ·intro a W hG hR hO hp; have h6 := hO.slot 6 (by kernel_rfl); have hM := HE.out.1.next hG; have hs := HE.out.2.1.below hG HE.out.2.1.lt; have hn := HE.out.2.2.1.below hG HE.out.2.2.1.lt; have c0 := hs.at 0 (v := vi c) rfl; have c1 := hs.at 1 (v := vi b) rfl; refine wp_yields (v := .agg #[vi c, vi b]) ?_ ⟨_, rfl, rfl, Below.refl _ _, hG⟩; simp [slotOf] at h6; simp [execOp, go_sem, h6, c0, c1]
     ·intro a W hG hR hO hp; have h2 := hO.slot 2 (by kernel_rfl); have hM := HE.out.1.next hG; have hs := HE.out.2.1.below hG HE.out.2.1.lt; have hn := HE.out.2.2.1.below hG HE.out.2.2.1.lt; have c0 := hM.pl.at 0 (v := .func (.func 77) #[lkV T.s T.f T.t] #[]) rfl; refine wp_yields (v := .func (.func 77) #[lkV T.s T.f T.t] #[]) ?_ ⟨_, rfl, rfl, Below.refl _ _, hG⟩; simp [slotOf] at h2; simp [execOp, go_sem, h2, c0]
     ·intro a W hG hR hO hp; have h6 := hO.slot 6 (by kernel_rfl); have hM := HE.out.1.next hG; have hs := HE.out.2.1.below hG HE.out.2.1.lt; have hn := HE.out.2.2.1.below hG HE.out.2.2.1.lt; refine wp_yields (v := .pointer (some ⟨sb, 0, none⟩)) ?_ ⟨_, rfl, rfl, Below.refl _ _, hG⟩; simp [slotOf] at h6; simp [execOp, go_sem, h6]
     ·intro a W hG hR hO hp; have h48 : slotOf a 48 = .pointer (some ⟨sb, 0, none⟩) := hp.1; have hM := HE.out.1.next hG; have hs := HE.out.2.1.below hG HE.out.2.1.lt; have hn := HE.out.2.2.1.below hG HE.out.2.2.1.lt; have c0 := hs.at 0 (v := vi c) rfl; refine wp_yields (v := vi c) ?_ ⟨_, rfl, rfl, Below.refl _ _, hG⟩; simp [slotOf] at h48; simp [execOp, go_sem, h48, c0]
     ·intro a W hG hR hO hp; have h6 := hO.slot 6 (by kernel_rfl); have hM := HE.out.1.next hG; have hs := HE.out.2.1.below hG HE.out.2.1.lt; have hn := HE.out.2.2.1.below hG HE.out.2.2.1.lt; refine wp_yields (v := .pointer (some ⟨sb, 1, none⟩)) ?_ ⟨_, rfl, rfl, Below.refl _ _, hG⟩; simp [slotOf] at h6; simp [execOp, go_sem, h6]
     ·intro a W hG hR hO hp; have h50 : slotOf a 50 = .pointer (some ⟨sb, 1, none⟩) := hp.1; have hM := HE.out.1.next hG; have hs := HE.out.2.1.below hG HE.out.2.1.lt; have hn := HE.out.2.2.1.below hG HE.out.2.2.1.lt; have c0 := hs.at 1 (v := vi b) rfl; refine wp_yields (v := vi b) ?_ ⟨_, rfl, rfl, Below.refl _ _, hG⟩; simp [slotOf] at h50; simp [execOp, go_sem, h50, c0]
     ·intro a W hG hR hO hp
      have h47 : slotOf a 47 = .func (.func 77) #[lkV T.s T.f T.t] #[] := hp.1
      have h49 : slotOf a 49 = vi c := hp.2.1
      have h51 : slotOf a 51 = vi b := hp.2.2.1
      have hM := HE.out.1.next hG
      have hs := HE.out.2.1.below hG HE.out.2.1.lt
      have hn := HE.out.2.2.1.below hG HE.out.2.2.1.lt
      refine wp_enters (f := 77) (args := #[lkV T.s T.f T.t, vi c, vi b]) ?_ ((HPR.out W hM.at_.ok).mono ?_)
      ·simp [slotOf] at h47 h49 h51
       simp [execOp, go_sem, h47, h49, h51]
      ·rintro e w' ⟨rfl, hb⟩
       exact ⟨_, rfl, _, rfl, rfl, hb, below_next hG hb⟩
     ·intro a W hG hR hO hp; have h10 := hO.slot 10 (by kernel_rfl); have hM := HE.out.1.next hG; have hs := HE.out.2.1.below hG HE.out.2.1.lt; have hn := HE.out.2.2.1.below hG HE.out.2.2.1.lt; have c0 := hn.at 0 (v := vi nz) rfl; refine wp_yields (v := vi nz) ?_ ⟨_, rfl, rfl, Below.refl _ _, hG⟩; simp [slotOf] at h10; simp [execOp, go_sem, h10, c0]
     ·intro a W hG hR hO hp; have h52 : slotOf a 52 = vi pc := hp.1; have h53 : slotOf a 53 = vi nz := hp.2.1; have hM := HE.out.1.next hG; have hs := HE.out.2.1.below hG HE.out.2.1.lt; have hn := HE.out.2.2.1.below hG HE.out.2.2.1.lt; refine wp_yields (v := vi (pc + nz)) ?_ ⟨_, rfl, rfl, Below.refl _ _, hG⟩; simp [slotOf] at h52 h53; simp [execOp, go_sem, h52, h53, c54]
    ·intro wu hG hR
     rintro _ rfl _ rfl _ rfl _ rfl _ rfl _ rfl _ rfl _ rfl _ rfl _ rfl
     change wpList _ _ _ _ _ _
     simp only [Act.put, List.setIfInBounds_toArray, List.set_cons_zero, List.set_cons_succ, List.drop_succ_cons, List.drop_zero]
     obtain ⟨lp3, hlp3⟩ : ∃ lp3, lp3 = putR ((c : Int), (b : Int)) (pc + nz) lp2 := ⟨_, rfl⟩
     refine wpList_update_r _ rfl _ _ _ 150 rfl spot_key Try.underlying150 T.mb lp2 rfl (HE.out.1.next hG).mm ((c : Int), (b : Int)) (pc + nz) rfl rfl ?_
     rw [<- hlp3]
     have HLO := Lib.hid (show ∃ iv, atR ((c : Int), (b : Int)) lp3 0 = some iv from hlp3 ▸ look_put _ _ _)
     have HG3 : Hid (Good T lp3) := Lib.hid (hlp3 ▸ good_put HG2.out (by omega) (by rw [HVV.out, HZ.out]))
     obtain ⟨w3, hw3⟩ : ∃ w3, w3 = Go.ChangeMaps.setBlock wu T.mb (.map (ents spotK evI lp3) lp3.length) := ⟨_, rfl⟩
     have H3 : Hid (RsM T lp3 w3 /\ Whole w3 sb 154 #[vi c, vi b] /\ w3.heap[w6.heap.size]? = some (.deferred (some [])) /\ w.grownBy w3 (some T.mb)) := Lib.hid (by
      obtain ⟨a1, a2, a3, a4, a5⟩ := HE.out
      have b1 := HSB.out
      have b2 := HLT.out.m
      have b3 := HSO.out
      rw [hw3]
      refine ⟨(a1.next hG).put hT lp3, (a2.below hG a2.lt).setBlock (by omega) _, ?_, grown_trans a5 (grown_trans (grown_of_newer hG _) (grown_setBlock _ _ _))⟩
      rw [setBlock_get_ne _ (by omega)]
      exact (hG.block _ (Array.getElem?_eq_some_iff.1 a4).1).trans a4)
     rw [<- hw3]
     clear hw3 hlp3 hG hR HE
     obtain ⟨⟨i3, v3⟩, h3⟩ := HLO.out
     have HV3 := Lib.hid (good_look HG3.out h3)
     have HH := Lib.hid h3
     have s0 := H3.out.2.1.at 0 (v := vi c) rfl
     have s1 := H3.out.2.1.at 1 (v := vi b) rfl
     have k0 := H3.out.1.kl.at 0 (v := .map (some T.mb)) rfl
     clear h3 HLO
     go_wp2_with (at_lookup; refine wpList_lookup_r _ rfl _ _ 150 false rfl spot_key Try.underlying150 (zero3 _) T.mb lp3 rfl H3.out.1.mm ((c : Int), (b : Int)) rfl ?_; simp only [HH.out, Option.map_some, Option.getD_some, Bool.false_eq_true, if_false])
     refine ⟨by simp, .inl ⟨_, _, rfl, run_takeDeferred H3.out.2.2.1, ?_⟩⟩
     refine ⟨_, by simp [results, Try.results78, go_sem]; rfl, by rw [HV3.out, HZ.out], lp3, ?_, HG3.out, ?_⟩
     ·have b1 := HSB.out
      have b2 := HLT.out
      have b3 := HSO.out
      have b4 := b2.x
      have b5 := b2.t
      have b6 := b2.k
      have b7 := b2.p
      have b8 := b2.f
      have b9 := b2.m
      have b10 := hT.bm
      exact H3.out.1.far (grown_putL _ _ _) (by omega) (by omega) (by omega) (by omega) (by omega) (by omega) (by omega)
     ·have b1 := HSB.out
      have b3 := HSO.out
      exact grown_put H3.out.2.2.2 (by omega) _
theorem rest_any (T : RP) (hT : RpOk T) : ∀ m, RestC T m
 | 0 => recur_step T hT 0 (fun _ h => by omega)
 | m + 1 => recur_step T hT (m + 1) (fun m' h => by
  have e : m = m' := by omega
  exact e ▸ rest_any T hT m)
end

section
open Go.RowKit
section
variable {P : Program}
theorem region_full_any {l : List Oper} {n : Nat} {Q : Exit -> Act -> World -> Prop} {a₀ : Act} {w : World} (hB : relB l n = true)
  (G : Array Bool -> World -> Prop) (Rl : Nat -> World -> World -> Prop) (D : Array Bool -> Nat -> Value -> World -> Prop)
  (hDs : ∀ (listed : Array Bool) i j v W W', i < n -> j ≠ i -> listed.size = l.length -> listed.getD i false = false -> listed.getD j false = true -> (∀ k, edgeB l i k = true -> listed.getD k false = true) -> (∀ j k, j < n -> edgeB l j k = true -> listed.getD j false = true -> listed.getD k false = true) ->
   D listed j v W -> Rl i W W' -> D (listed.setIfInBounds i true) j v W')
  (hsz : ∀ i o d, i < n -> l[i]? = some o -> o.dst = some d -> d < a₀.tmps.size)
  (hG : G (Array.replicate l.toArray.size false) w)
  (hstep : ∀ i o, i < n -> l[i]? = some o -> ∀ (listed : Array Bool) a W, listed.size = l.length -> listed.getD i true = false -> (∀ k, edgeB l i k = true -> listed.getD k false = true) -> (∀ j k, j < n -> edgeB l j k = true -> listed.getD j false = true -> listed.getD k false = true) -> G listed W -> Outer l n a₀ a -> (∀ (j : Nat) (oj : Oper) (d : Tmp), j < n -> l[j]? = some oj -> oj.dst = some d -> listed.getD j false = false -> slotOf a d = slotOf a₀ d) ->
   (∀ j oj d, j < n -> l[j]? = some oj -> oj.dst = some d -> (∃ e ∈ o.after, Region.binds .any e = true /\ e.on = j) -> D listed j (slotOf a d) W) ->
   o.wp P a W (fun a' W' => ∃ v, a' = a.put o.dst v /\ D (listed.setIfInBounds i true) i v W' /\ Rl i W W' /\ G (listed.setIfInBounds i true) W') Q)
  (htail : ∀ (listed : Array Bool) a W, (∀ i, i < n -> listed.getD i false = true) -> G listed W -> Outer l n a₀ a -> (∀ j oj d, j < n -> l[j]? = some oj -> oj.dst = some d -> D listed j (slotOf a d) W) -> wpList P l.toArray Q (l.drop n) a W) :
  wpAny P .any l.toArray Q l.toArray.size (Array.replicate l.toArray.size false) a₀ w := by
 simp only [relB, Bool.and_eq_true, decide_eq_true_eq] at hB
 obtain ⟨⟨⟨⟨⟨hn, hs⟩, hc⟩, hback⟩, hdst⟩, hseq⟩ := hB
 have hback' : ∀ (i : Nat) (o : Oper), l[i]? = some o -> (∀ e ∈ o.after, Region.binds .any e = true -> e.on < i) /\ o.guard = none := by
  intro i o ho
  have := List.all_eq_true.1 hback i (List.mem_range.2 (List.getElem?_eq_some_iff.1 ho).1)
  simp only [ho, Bool.and_eq_true, Array.all_eq_true_iff_forall_mem] at this
  exact ⟨fun e he hb => by simpa [hb] using this.1 e he, by simpa using this.2⟩
 have hdst' : ∀ (i j : Nat) (o o' : Oper) (d : Tmp), i < n -> j < n -> i ≠ j -> l[i]? = some o -> l[j]? = some o' -> o.dst = some d -> o'.dst ≠ some d := by
  intro i j o o' d hi hj hij ho ho' hd hd'
  have := List.all_eq_true.1 (List.all_eq_true.1 hdst i (List.mem_range.2 hi)) j (List.mem_range.2 hj)
  simp [hij, ho, ho', hd, hd'] at this
 have key : ∀ (f : Nat) (listed : Array Bool) (a : Act) (W : World), HeadInv .any l.toArray n listed -> ((List.range n).filter fun i => !listed.getD i false).length = f ->
   G listed W -> Outer l n a₀ a -> (∀ (j : Nat) (oj : Oper) (d : Tmp), j < n -> l[j]? = some oj -> oj.dst = some d -> listed.getD j false = false -> slotOf a d = slotOf a₀ d) -> (∀ (j : Nat) (oj : Oper) (d : Tmp), j < n -> l[j]? = some oj -> listed.getD j false = true -> oj.dst = some d -> D listed j (slotOf a d) W) ->
   wpAny P .any l.toArray Q (f + (l.length - n)) listed a W := by
  intro f
  induction f with
  | zero =>
   intro listed a W inv hcnt hGW hO hU hD
   have hall : ∀ i, i < n -> listed.getD i false = true := by
    intro i hi
    have := List.eq_nil_of_length_eq_zero hcnt
    have h2 := List.filter_eq_nil_iff.1 this i (List.mem_range.2 hi)
    simpa using h2
   have hcanon : listed = headDone n l.length := by
    apply Array.ext
    ·rw [inv.size]; simp [headDone]
    ·intro i h1 h2
     have hi : i < l.length := by simpa [headDone] using h2
     simp only [headDone, Array.getElem_ofFn]
     by_cases hin : i < n
     ·have := hall i hin
      simp [h1] at this
      simp [this, hin]
     ·have := inv.tail i (by omega) (by simpa using hi)
      simp [h1] at this
      simp [this, hin]
   rw [Nat.zero_add]
   have := wpAny_of_seq (md := .any) (Q' := Q) (P := P) (ops := l.toArray) (l.drop n) n listed a W (fun j => by simp [List.getElem?_drop]) (by rw [List.length_drop, hcanon]; exact hseq) (htail listed a W hall hGW hO (fun j oj d hj ho hd => hD j oj d hj ho (hall j hj) hd))
   rwa [List.length_drop] at this
  | succ f ih =>
   intro listed a W inv hcnt hGW hO hU hD
   -- some operation of the head has not come up
   have hex : ∃ i, i < n /\ listed.getD i false = false /\ ∀ j, j < i -> listed.getD j false = true := by
    have hne : ((List.range n).filter fun i => !listed.getD i false) ≠ [] := by intro h; rw [h] at hcnt; cases hcnt
    have : ∃ i, i < n /\ listed.getD i false = false := by
     obtain ⟨x, hx⟩ := List.exists_mem_of_ne_nil _ hne
     have hx' := List.mem_filter.1 hx
     exact ⟨x, List.mem_range.1 hx'.1, by simpa using hx'.2⟩
    obtain ⟨i, hi, hl⟩ := this
    have : ∀ k i, i <= k -> i < n -> listed.getD i false = false -> ∃ i, i < n /\ listed.getD i false = false /\ ∀ j, j < i -> listed.getD j false = true := by
     intro k
     induction k with
     | zero => intro i hik hi hl; exact ⟨i, hi, hl, fun j hj => by omega⟩
     | succ k ihk =>
      intro i hik hi hl
      by_cases h : ∃ j, j < i /\ listed.getD j false = false
      ·obtain ⟨j, hj, hjl⟩ := h
       exact ihk j (by omega) (by omega) hjl
      ·refine ⟨i, hi, hl, fun j hj => ?_⟩
       cases hh : listed.getD j false with
       | true => rfl
       | false => exact absurd ⟨j, hj, hh⟩ h
    exact this i i (Nat.le_refl _) hi hl
   obtain ⟨i₀, hi₀, hun₀, hbelow⟩ := hex
   have hi₀s : i₀ < listed.size := by rw [inv.size]; simp; omega
   have hl₀ : listed.getD i₀ true = false := getD_in hi₀s hun₀
   have hready₀ : i₀ ∈ Region.ready .any l.toArray listed := by
    have ho : l[i₀]? = some l[i₀] := List.getElem?_eq_getElem (by omega)
    refine mem_ready.2 ⟨hl₀, l[i₀], by simp, fun e he hb => hbelow _ ((hback' i₀ _ ho).1 e he hb)⟩
   rw [show f + 1 + (l.length - n) = f + (l.length - n) + 1 by omega]
   refine ⟨fun h => (by rw [h] at hready₀; cases hready₀), fun i hi => ?_⟩
   have hin : i < n := by
    rcases Nat.lt_or_ge i n with h | h
    ·exact h
    ·exact absurd hi (tail_waits hs hc (by simpa using hn) inv _ i₀ rfl hi₀ hl₀ i h)
   obtain ⟨hiun, o, ho, hall⟩ := mem_ready.1 hi
   have ho' : l[i]? = some o := by simpa using ho
   have hst := hstep i o hin ho' listed a W (by rw [inv.size]; simp) hiun (fun k hk => by
      obtain ⟨o2, ho2, e, he, hb, hon⟩ := edge_of hk
      rw [ho'] at ho2
      cases ho2
      rw [<- hon]
      exact hall e he hb) (fun j2 k hj2 hk hl2 => by
      obtain ⟨o2, ho2, e, he, hb, hon⟩ := edge_of hk
      rw [<- hon]
      exact inv.closed j2 o2 (by simpa using ho2) hl2 e he hb) hGW hO hU (fun j oj d hj hoj hd ⟨e, he, hb, hon⟩ => hD j oj d hj hoj (by rw [<- hon]; exact hall e he hb) hd)
   unfold wpOp
   simp only [ho]
   have hw : Region.wanted o (yielded l.toArray a.tmps) = true := by simp [Region.wanted, (hback' i o ho').2]
   rw [if_pos hw]
   refine .inl (Oper.wp_mono ?_ hst)
   rintro a' W' ⟨v, rfl, hDv, hRv, hGv⟩
   have hOut : Outer l n a₀ (a.put o.dst v) := by
    refine ⟨?_, ?_, fun t ht => ?_⟩
    ·cases hd : o.dst <;> simp [Act.put, hO.defers]
    ·cases hd : o.dst <;> simp [Act.put, hO.size]
    ·cases hd : o.dst with
     | none => simpa [Act.put] using hO.same t ht
     | some d =>
      have hne : d ≠ t := fun h => ht i o hin ho' (by rw [hd, h])
      simp only [Act.put]
      rw [Array.getElem?_setIfInBounds_ne hne]
      exact hO.same t ht
   refine ih _ _ _ (inv.set hi hin) ?_ hGv hOut ?_ ?_
   ·have hiun' : listed.getD i false = false := getD_both hiun
    have his : i < listed.size := by rw [inv.size]; simp; omega
    have e1 : ((List.range n).filter fun j => !(listed.setIfInBounds i true).getD j false) = ((List.range n).filter fun j => !listed.getD j false).filter (fun j => decide (j ≠ i)) := by
     rw [List.filter_filter]
     apply List.filter_congr
     intro j _
     by_cases hji : j = i
     ·subst hji; simp [his]
     ·rw [getD_set_ne false (Ne.symm hji)]; simp [hji]
    rw [e1]
    have hnd : ((List.range n).filter fun j => !listed.getD j false).Nodup := List.nodup_range.filter _
    have hmem : i ∈ ((List.range n).filter fun j => !listed.getD j false) := List.mem_filter.2 ⟨List.mem_range.2 hin, by simp [hiun']⟩
    have := filter_ne_length i _ hnd hmem
    omega
   ·intro j oj d hj hoj hd hlj
    have his : i < listed.size := by rw [inv.size]; simp; omega
    by_cases hji : j = i
    ·subst hji
     simp [his] at hlj
    ·rw [getD_set_ne false (Ne.symm hji)] at hlj
     rw [<- hU j oj d hj hoj hd hlj]
     cases hdo : o.dst with
     | none => simp [Act.put]
     | some d' =>
      have hne : d ≠ d' := fun h => hdst' j i oj o d hj hin hji hoj ho' hd (by rw [hdo, h])
      rw [slot_put_other hne]
   ·intro j oj d hj hoj hlj hd
    by_cases hji : j = i
    ·subst hji
     have : oj = o := Option.some.inj (hoj.symm.trans ho')
     subst this
     have hds : d < a.tmps.size := by rw [hO.size]; exact hsz j oj d hj hoj hd
     rw [hd, slot_put_same hds]
     exact hDv
    ·rw [getD_set_ne false (Ne.symm hji)] at hlj
     have hold := hDs listed i j _ W W' hin hji (by rw [inv.size]; simp) (getD_both hiun) hlj (fun k hk => by
      obtain ⟨o2, ho2, e, he, hb, hon⟩ := edge_of hk
      rw [ho'] at ho2
      cases ho2
      rw [<- hon]
      exact hall e he hb) (fun j2 k hj2 hk hl2 => by
      obtain ⟨o2, ho2, e, he, hb, hon⟩ := edge_of hk
      rw [<- hon]
      exact inv.closed j2 o2 (by simpa using ho2) hl2 e he hb) (hD j oj d hj hoj hlj hd) hRv
     cases hdo : o.dst with
     | none => simpa [Act.put] using hold
     | some d' =>
      have hne : d ≠ d' := fun h => hdst' j i oj o d hj hin hji hoj ho' hd (by rw [hdo, h])
      rw [slot_put_other hne]
      exact hold
 have inv0 : HeadInv .any l.toArray n (Array.replicate l.toArray.size false) :=
  ⟨by simp, fun j oj _ hl => (by rw [getD_replicate_false] at hl; cases hl), fun t _ ht => getD_in (by simpa using ht) (getD_replicate_false _ _)⟩
 have := key n _ a₀ w inv0 (by
  have : ((List.range n).filter fun i => !(Array.replicate l.toArray.size false).getD i false) = List.range n := List.filter_eq_self.2 (fun i _ => by rw [getD_replicate_false]; rfl)
  rw [this, List.length_range]) hG ⟨rfl, rfl, fun _ _ => rfl⟩ (fun _ _ _ _ _ _ _ => rfl) (fun j oj d _ _ hl => by rw [getD_replicate_false] at hl; cases hl)
 rw [show n + (l.length - n) = l.toArray.size by simp; omega] at this
 exact this
def stageN (p q : Nat) (listed : Array Bool) : Nat := match listed.getD p false, listed.getD q false with
 | false, _ => 0
 | true, false => 1
 | true, true => 2
def stepT (P : Program) (l : List Oper) (n p q : Nat) (Q : Exit -> Act -> World -> Prop) (a₀ : Act) (G : Nat -> World -> Prop) (Rp Rq : World -> World -> Prop) (D : Nat -> Value -> World -> Prop) (i : Nat) (o : Oper) : Prop :=
 match Nat.beq i p, Nat.beq i q with
 | true, _ => ∀ a W, G 0 W -> Outer l n a₀ a -> preds l D a W o.after.toList -> o.wp P a W (fun a' W' => ∃ v, a' = a.put o.dst v /\ D i v W' /\ Rp W W' /\ G 1 W') Q
 | false, true => ∀ a W, G 1 W -> Outer l n a₀ a -> preds l D a W o.after.toList -> o.wp P a W (fun a' W' => ∃ v, a' = a.put o.dst v /\ D i v W' /\ Rq W W' /\ G 2 W') Q
 | false, false => match edgeB l p i, edgeB l q i with
  | true, _ => ∀ a W, G 0 W -> Outer l n a₀ a -> preds l D a W o.after.toList -> o.wp P a W (fun a' W' => ∃ v, a' = a.put o.dst v /\ D i v W' /\ newer W W') Q
  | false, true => ∀ s a W, s <= 1 -> G s W -> Outer l n a₀ a -> preds l D a W o.after.toList -> o.wp P a W (fun a' W' => ∃ v, a' = a.put o.dst v /\ D i v W' /\ newer W W') Q
  | false, false => ∀ s a W, G s W -> Outer l n a₀ a -> preds l D a W o.after.toList -> o.wp P a W (fun a' W' => ∃ v, a' = a.put o.dst v /\ D i v W' /\ newer W W') Q
def stepsT (P : Program) (l : List Oper) (n p q : Nat) (Q : Exit -> Act -> World -> Prop) (a₀ : Act) (G : Nat -> World -> Prop) (Rp Rq : World -> World -> Prop) (D : Nat -> Value -> World -> Prop) : Nat -> List Oper -> Prop
 | _, [] => True
 | i, o :: os => stepT P l n p q Q a₀ G Rp Rq D i o /\ stepsT P l n p q Q a₀ G Rp Rq D (i + 1) os
theorem stepsT_get {l : List Oper} {n p q : Nat} {Q : Exit -> Act -> World -> Prop} {a₀ : Act} {G : Nat -> World -> Prop} {Rp Rq : World -> World -> Prop} {D : Nat -> Value -> World -> Prop} : ∀ (os : List Oper) (k : Nat), stepsT P l n p q Q a₀ G Rp Rq D k os -> ∀ i o, os[i]? = some o -> stepT P l n p q Q a₀ G Rp Rq D (k + i) o
 | [], _, _, i, o, h => by simp at h
 | x :: os, k, hs, 0, o, h => by simp at h; subst h; exact hs.1
 | x :: os, k, hs, i + 1, o, h => by
  have := stepsT_get os (k + 1) hs.2 i o (by simpa using h)
  rw [show k + (i + 1) = k + 1 + i by omega]
  exact this
theorem beq_is {a b : Nat} : Nat.beq a b = decide (a = b) := by
 cases h : Nat.beq a b with
 | true => rw [decide_eq_true (Nat.eq_of_beq_eq_true h)]
 | false => rw [decide_eq_false (Nat.ne_of_beq_eq_false h)]
theorem region_steps {l : List Oper} (n p q : Nat) {Q : Exit -> Act -> World -> Prop} {a₀ : Act} {w : World} (hB : relB l n = true) (hz : szOk a₀.tmps.size (l.take n) = true) (hqp : edgeB l q p = true) (hp : p < n) (hq : q < n) (hpq : p ≠ q)
  (G : Nat -> World -> Prop) (Rp Rq : World -> World -> Prop) (D : Nat -> Value -> World -> Prop)
  (hn : ∀ j v W W', D j v W -> newer W W' -> D j v W') (hGn : ∀ s W W', G s W -> newer W W' -> G s W')
  (hDp : ∀ j v W W', j ≠ p -> D j v W -> Rp W W' -> D j v W') (hDq : ∀ j v W W', D j v W -> Rq W W' -> D j v W')
  (hG : G 0 w) (hstep : stepsT P l n p q Q a₀ G Rp Rq D 0 (l.take n))
  (htail : ∀ W, G 2 W -> tailsOk D W (fun a => wpList P l.toArray Q (l.drop n) a W) 0 (l.take n) a₀) :
  wpAny P .any l.toArray Q l.toArray.size (Array.replicate l.toArray.size false) a₀ w := by
 have htake : ∀ (i : Nat) (o : Oper), i < n -> l[i]? = some o -> (l.take n)[i]? = some o := fun i o hi ho => by rw [List.getElem?_take, if_pos hi]; exact ho
 have hnl : n < l.length := by
  have hB' := hB
  simp only [relB, Bool.and_eq_true, decide_eq_true_eq] at hB'
  omega
 have hback : ∀ (i : Nat) (o : Oper), i < n -> l[i]? = some o -> ∀ e ∈ o.after, Region.binds .any e = true -> e.on < n := by
  have hB' := hB
  simp only [relB, Bool.and_eq_true, decide_eq_true_eq] at hB'
  obtain ⟨⟨⟨⟨⟨_, _⟩, _⟩, hback⟩, _⟩, _⟩ := hB'
  intro i o hi ho e he hbd
  have := List.all_eq_true.1 hback i (List.mem_range.2 (List.getElem?_eq_some_iff.1 ho).1)
  simp only [ho, Bool.and_eq_true, Array.all_eq_true_iff_forall_mem] at this
  have h2 : e.on < i := by simpa [hbd] using this.1 e he
  omega
 refine region_full_any hB (fun listed W => G (stageN p q listed) W) (fun i => if i = p then Rp else if i = q then Rq else newer) (fun _ => D) ?_ (fun i o d hi ho hd => sz_of _ hz i o d (htake i o hi ho) hd) ?_ ?_ ?_
 ·intro listed i j v W W' hi hji hsz hui hlj hpi hcl hD hR
  split at hR
  ·exact hDp j v W W' (by omega) hD hR
  ·split at hR
   ·exact hDq j v W W' hD hR
   ·exact hn j v W W' hD hR
 ·have e : stageN p q (Array.replicate l.toArray.size false) = 0 := by
   unfold stageN
   rw [getD_replicate_false]
  rw [e]
  exact hG
 ·intro i o hi ho listed a W hsz hun hrd hcl hGW hO _ hpr
  have hst := stepsT_get _ _ hstep i o (htake i o hi ho)
  rw [Nat.zero_add] at hst
  have hpr' := preds_of o (hback i o hi ho) hpr
  have hun' : listed.getD i false = false := getD_both hun
  have hset : ∀ k, k < n -> (listed.setIfInBounds k true).getD k false = true := fun k hk => by
   have : k < listed.size := by rw [hsz]; omega
   simp [this]
  unfold stepT at hst
  rw [beq_is, beq_is] at hst
  by_cases hip : i = p
  ·subst hip
   rw [decide_eq_true rfl] at hst
   have hq0 : listed.getD q false = false := by
    cases hh : listed.getD q false with
    | false => rfl
    | true => rw [hcl q i hq hqp hh] at hun'; cases hun'
   have e0 : stageN i q listed = 0 := by unfold stageN; rw [hun']
   rw [e0] at hGW
   refine Oper.wp_mono ?_ (hst a W hGW hO hpr')
   rintro a' W' ⟨v, h1, h2, h3, h4⟩
   refine ⟨v, h1, h2, by rw [if_pos rfl]; exact h3, ?_⟩
   have e1 : stageN i q (listed.setIfInBounds i true) = 1 := by
    unfold stageN
    rw [hset i hp, getD_set_ne false hpq, hq0]
   rw [e1]
   exact h4
  ·rw [decide_eq_false hip] at hst
   by_cases hiq : i = q
   ·subst hiq
    rw [decide_eq_true rfl] at hst
    have hp1 := hrd p hqp
    have e0 : stageN p i listed = 1 := by unfold stageN; rw [hp1, hun']
    rw [e0] at hGW
    refine Oper.wp_mono ?_ (hst a W hGW hO hpr')
    rintro a' W' ⟨v, h1, h2, h3, h4⟩
    refine ⟨v, h1, h2, by rw [if_neg hip, if_pos rfl]; exact h3, ?_⟩
    have e1 : stageN p i (listed.setIfInBounds i true) = 2 := by
     unfold stageN
     rw [hset i hq, getD_set_ne false hip, hp1]
    rw [e1]
    exact h4
   ·rw [decide_eq_false hiq] at hst
    have e1 : stageN p q (listed.setIfInBounds i true) = stageN p q listed := by
     unfold stageN
     rw [getD_set_ne false hip, getD_set_ne false hiq]
    have fin : ∀ a' W', (∃ v, a' = a.put o.dst v /\ D i v W' /\ newer W W') -> ∃ v, a' = a.put o.dst v /\ D i v W' /\ (if i = p then Rp else if i = q then Rq else newer) W W' /\ G (stageN p q (listed.setIfInBounds i true)) W' := by
     rintro a' W' ⟨v, h1, h2, h3⟩
     refine ⟨v, h1, h2, by rw [if_neg hip, if_neg hiq]; exact h3, ?_⟩
     rw [e1]
     exact hGn _ _ _ hGW h3
    have np : edgeB l p i = true -> listed.getD p false = false := fun he => by
     cases hh : listed.getD p false with
     | false => rfl
     | true => rw [hcl p i hp he hh] at hun'; cases hun'
    have nq : edgeB l q i = true -> listed.getD q false = false := fun he => by
     cases hh : listed.getD q false with
     | false => rfl
     | true => rw [hcl q i hq he hh] at hun'; cases hun'
    cases hep : edgeB l p i with
    | true =>
     rw [hep] at hst
     have e0 : stageN p q listed = 0 := by unfold stageN; rw [np hep]
     rw [e0] at hGW
     exact Oper.wp_mono fin (hst a W hGW hO hpr')
    | false =>
     rw [hep] at hst
     cases heq : edgeB l q i with
     | true =>
      rw [heq] at hst
      have e0 : stageN p q listed <= 1 := by
       unfold stageN
       rw [nq heq]
       cases listed.getD p false <;> simp
      exact Oper.wp_mono fin (hst _ a W e0 hGW hO hpr')
     | false =>
      rw [heq] at hst
      exact Oper.wp_mono fin (hst _ a W hGW hO hpr')
 ·intro listed a W hall hGW hO hd
  have e0 : stageN p q listed = 2 := by unfold stageN; rw [hall p hp, hall q hq]
  rw [e0] at hGW
  have hh : heads D a W 0 (l.take n) := heads_of _ _ fun j oj d hj hdd => by
   rw [List.getElem?_take] at hj
   split at hj
   ·rename_i hjn
    rw [Nat.zero_add]
    exact hd j oj d hjn hj hdd
   ·cases hj
  have := tails_filled _ _ _ hh (htail W hGW)
  rwa [filled_eq hO] at this
def stepE (P : Program) (l : List Oper) (n : Nat) (Q : Exit -> Act -> World -> Prop) (a₀ : Act) (G : World -> Prop) (Rl : World -> World -> Prop) (D : Nat -> Value -> World -> Prop) (i : Nat) (o : Oper) : Prop :=
 ∀ a W, G W -> Outer l n a₀ a -> (∀ (k : Nat) (ok : Oper) (d : Tmp), k < n -> l[k]? = some ok -> ok.dst = some d -> edgeB l k i = true -> slotOf a d = slotOf a₀ d) -> preds l D a W o.after.toList -> o.wp P a W (fun a' W' => ∃ v, a' = a.put o.dst v /\ D i v W' /\ Rl W W' /\ G W') Q
def stepsE (P : Program) (l : List Oper) (n : Nat) (Q : Exit -> Act -> World -> Prop) (a₀ : Act) (G : World -> Prop) (Rl : World -> World -> Prop) (D : Nat -> Value -> World -> Prop) : Nat -> List Oper -> Prop
 | _, [] => True
 | i, o :: os => stepE P l n Q a₀ G Rl D i o /\ stepsE P l n Q a₀ G Rl D (i + 1) os
theorem stepsE_get {l : List Oper} {n : Nat} {Q : Exit -> Act -> World -> Prop} {a₀ : Act} {G : World -> Prop} {Rl : World -> World -> Prop} {D : Nat -> Value -> World -> Prop} : ∀ (os : List Oper) (k : Nat), stepsE P l n Q a₀ G Rl D k os -> ∀ i o, os[i]? = some o -> stepE P l n Q a₀ G Rl D (k + i) o
 | [], _, _, i, o, h => by simp at h
 | x :: os, k, hs, 0, o, h => by simp at h; subst h; exact hs.1
 | x :: os, k, hs, i + 1, o, h => by
  have := stepsE_get os (k + 1) hs.2 i o (by simpa using h)
  rw [show k + (i + 1) = k + 1 + i by omega]
  exact this
theorem region_told_e {l : List Oper} (n : Nat) {Q : Exit -> Act -> World -> Prop} {a₀ : Act} {w : World} (hB : relB l n = true) (hz : szOk a₀.tmps.size (l.take n) = true)
  (G : World -> Prop) (Rl : World -> World -> Prop) (D : Nat -> Value -> World -> Prop) (hDs : ∀ i v W W', D i v W -> Rl W W' -> D i v W')
  (hG : G w) (hstep : stepsE P l n Q a₀ G Rl D 0 (l.take n))
  (htail : ∀ W, G W -> tailsOk D W (fun a => wpList P l.toArray Q (l.drop n) a W) 0 (l.take n) a₀) :
  wpAny P .any l.toArray Q l.toArray.size (Array.replicate l.toArray.size false) a₀ w := by
 have htake : ∀ (i : Nat) (o : Oper), i < n -> l[i]? = some o -> (l.take n)[i]? = some o := fun i o hi ho => by rw [List.getElem?_take, if_pos hi]; exact ho
 have hback : ∀ (i : Nat) (o : Oper), i < n -> l[i]? = some o -> ∀ e ∈ o.after, Region.binds .any e = true -> e.on < n := by
  have hB' := hB
  simp only [relB, Bool.and_eq_true, decide_eq_true_eq] at hB'
  obtain ⟨⟨⟨⟨⟨_, _⟩, _⟩, hback⟩, _⟩, _⟩ := hB'
  intro i o hi ho e he hbd
  have := List.all_eq_true.1 hback i (List.mem_range.2 (List.getElem?_eq_some_iff.1 ho).1)
  simp only [ho, Bool.and_eq_true, Array.all_eq_true_iff_forall_mem] at this
  have h2 : e.on < i := by simpa [hbd] using this.1 e he
  omega
 refine region_full_any hB (fun _ W => G W) (fun _ => Rl) (fun _ => D) ?_ (fun i o d hi ho hd => sz_of _ hz i o d (htake i o hi ho) hd) hG ?_ ?_
 ·intro listed i j v W W' hi hji hsz hui hlj hpi hcl hD hR
  exact hDs j v W W' hD hR
 ·intro i o hi ho listed a W hsz hun hrd hcl hGW hO hU hpr
  have hst := stepsE_get _ _ hstep i o (htake i o hi ho)
  rw [Nat.zero_add] at hst
  have hpr' := preds_of o (hback i o hi ho) hpr
  have hun' : listed.getD i false = false := getD_both hun
  refine hst a W hGW hO (fun k ok d hk hok hd he => hU k ok d hk hok hd ?_) hpr'
  cases hh : listed.getD k false with
  | false => rfl
  | true => rw [hcl k i hk he hh] at hun'; cases hun'
 ·intro listed a W hall hGW hO hd
  have hh : heads D a W 0 (l.take n) := heads_of _ _ fun j oj d hj hdd => by
   rw [List.getElem?_take] at hj
   split at hj
   ·rename_i hjn
    rw [Nat.zero_add]
    exact hd j oj d hjn hj hdd
   ·cases hj
  have := tails_filled _ _ _ hh (htail W hGW)
  rwa [filled_eq hO] at this
end
end

section
open Go.RowKit Go.Shelf Go.Deep
abbrev rpOf (s : Sm) (f : Int) (t : Option Bool) (z b : Nat) : RP := ⟨s, f, t, z, b, b + 1, b + 1 + 1 + 1, b + 1 + 1 + 1 + 1, b + 1 + 1 + 1 + 1 + 1, b + 1 + 1 + 1 + 1 + 1 + 1, b⟩
structure ChS (b k c j : Nat) (Ds acc : List Nat) (cur pb q cc : Nat) (w W : World) : Prop where
 hr : Whole W (b + 1 + 1) 40 #[vi k, .slice (some ⟨q, 0, none⟩) (j + 1) cc]
 row : W.ownsRow (b + 7) 3 1 (.slice (some ⟨q, 0, none⟩) (j + 1) cc) (j + 1) ((acc ++ [cur]).map fun x : Nat => vi x)
 st : Whole W pb 154 #[vi c, vi cur]
 nw : newer w W
 ms : MarksOk Ds W
 pbb : b + 7 <= pb
 ge : ∀ D ∈ Ds, b + 7 <= D
 wb : w.heap.size = b
structure ChL (b : Nat) (Ds : List Nat) (pb q N : Nat) : Prop where
 p : pb < N
 q : q < N
 d : ∀ D ∈ Ds, D < N
 n : b + 7 <= N
section
variable {b k c j : Nat} {Ds acc : List Nat} {cur pb q cc : Nat} {w W W' : World}
theorem ChS.qge (h : ChS b k c j Ds acc cur pb q cc w W) : b + 7 <= q := own_ge h.row q rfl
theorem ChS.lts (h : ChS b k c j Ds acc cur pb q cc w W) : ChL b Ds pb q W.heap.size :=
 ⟨h.st.lt, own_lt h.row q rfl, h.ms.lt, by have := h.st.lt; have := h.pbb; omega⟩
theorem ChS.next (h : ChS b k c j Ds acc cur pb q cc w W) (hb : newer W W') : ChS b k c j Ds acc cur pb q cc w W' :=
 ⟨h.hr.below hb h.hr.lt, own_below h.row hb, h.st.below hb h.st.lt, newer_trans h.nw hb, h.ms.next hb, h.pbb, h.ge, h.wb⟩
theorem ChS.far (h : ChS b k c j Ds acc cur pb q cc w W) {d : Nat} (hg : W.grownBy W' (some d)) (h1 : d ≠ b + 1 + 1) (h2 : d ≠ q) (h3 : d ≠ pb) (h4 : d ∉ Ds) (h5 : b <= d) : ChS b k c j Ds acc cur pb q cc w W' := by
 have ne : ∀ {x : Nat}, d ≠ x -> some x ≠ some d := fun h e => h (by injection e with e; exact e.symm)
 refine ⟨h.hr.grown hg (ne h1), h.row.kept hg (.inr (show some q ≠ some d from ne h2)), h.st.grown hg (ne h3), Below.trans h.nw (below_of_grown hg (by rw [h.wb]; exact h5) ?_), h.ms.grown hg h4, h.pbb, h.ge, h.wb⟩
 exact h.nw.size
theorem ChS.memo (h : ChS b k c j Ds acc cur pb q cc w W) (hg : W.grownBy W' (some (b + 1 + 1 + 1))) : ChS b k c j Ds acc cur pb q cc w W' := by
 have h1 := h.qge
 have h2 := h.pbb
 exact h.far hg (by omega) (by omega) (by omega) (fun hm => by have := h.ge _ hm; omega) (by omega)
theorem ChS.fresh (h : ChS b k c j Ds acc cur pb q cc w W) {N d : Nat} (hl : ChL b Ds pb q N) (hd : N <= d) (hg : W.grownBy W' (some d)) : ChS b k c j Ds acc cur pb q cc w W' := by
 have h1 := hl.p
 have h2 := hl.q
 have h3 := hl.n
 exact h.far hg (by omega) (by omega) (by omega) (fun hm => by have := hl.d _ hm; omega) (by omega)
end
theorem RsM.high {s : Sm} {f : Int} {t : Option Bool} {z b : Nat} {lp : List ((Int × Int) × Int)} {W W' : World} (h : RsM (rpOf s f t z b) lp W) {d : Nat} (hg : W.grownBy W' (some d)) (hd : b + 7 <= d) : RsM (rpOf s f t z b) lp W' :=
 h.far hg (by simp only []; omega) (by simp only []; omega) (by simp only []; omega) (by simp only []; omega) (by simp only []; omega) (by simp only []; omega) (by simp only []; omega)
structure BsJ (s : Sm) (f : Int) (t : Option Bool) (z b k c c1 j : Nat) (Ds acc : List Nat) (cur pb q cc sb lb bb D N best : Nat) (r : Loop) (w W : World) : Prop where
 me : ∃ lp, RsM (rpOf s f t z b) lp W /\ Good (rpOf s f t z b) lp
 ch : ChS b k c j Ds acc cur pb q cc w W
 sp : Whole W sb 154 #[vi c1, vi best]
 bx : Whole W bb 3 #[vi cur]
 lx : Whole W lb 88 (lkC s f t)
 df : W.heap[D]? = some (.deferred (some []))
 lo : W.heap[D + 1]? = some (.loop r)
 lm : ChL b Ds pb q N
 so : N <= sb /\ sb < lb /\ lb < bb /\ bb < D
section
variable {s : Sm} {f : Int} {t : Option Bool} {z b k c c1 j : Nat} {Ds acc : List Nat} {cur pb q cc sb lb bb D N best : Nat} {r : Loop} {w W W' : World}
theorem BsJ.next (h : BsJ s f t z b k c c1 j Ds acc cur pb q cc sb lb bb D N best r w W) (hb : newer W W') : BsJ s f t z b k c c1 j Ds acc cur pb q cc sb lb bb D N best r w W' := by
 obtain ⟨lp, h1, h2⟩ := h.me
 exact ⟨⟨lp, h1.next hb, h2⟩, h.ch.next hb, h.sp.below hb h.sp.lt, h.bx.below hb h.bx.lt, h.lx.below hb h.lx.lt, (hb.block _ (Array.getElem?_eq_some_iff.1 h.df).1).trans h.df, (hb.block _ (Array.getElem?_eq_some_iff.1 h.lo).1).trans h.lo, h.lm, h.so⟩
theorem BsJ.back (h : BsJ s f t z b k c c1 j Ds acc cur pb q cc sb lb bb D N best r w W) (hg : W.grownBy W' (some (b + 1 + 1 + 1))) (hm : ∃ lp, RsM (rpOf s f t z b) lp W' /\ Good (rpOf s f t z b) lp) : BsJ s f t z b k c c1 j Ds acc cur pb q cc sb lb bb D N best r w W' := by
 have h1 := h.so
 have h2 := h.lm.n
 have ne : ∀ {x : Nat}, b + 7 <= x -> some x ≠ some (b + 1 + 1 + 1) := fun h e => by injection e; omega
 exact ⟨hm, h.ch.memo hg, h.sp.grown hg (ne (by omega)), h.bx.grown hg (ne (by omega)), h.lx.grown hg (ne (by omega)), (hg.block _ (Array.getElem?_eq_some_iff.1 h.df).1 (ne (by omega))).trans h.df, (hg.block _ (Array.getElem?_eq_some_iff.1 h.lo).1 (ne (by omega))).trans h.lo, h.lm, h.so⟩
theorem BsJ.put (h : BsJ s f t z b k c c1 j Ds acc cur pb q cc sb lb bb D N best r w W) (r' : Loop) : BsJ s f t z b k c c1 j Ds acc cur pb q cc sb lb bb D N best r' w (W.putObj (D + 1) (.loop r')) := by
 obtain ⟨lp, h1, h2⟩ := h.me
 have h3 := h.so
 have h4 := h.lm.n
 have hD := (Array.getElem?_eq_some_iff.1 h.lo).1
 exact ⟨⟨lp, h1.high (grown_putL _ _ _) (by omega), h2⟩, h.ch.fresh h.lm (by omega) (grown_putL _ _ _), h.sp.put (by omega) _, h.bx.put (by omega) _, h.lx.put (by omega) _, (World.putObj_heap_other (by omega)).trans h.df, World.putObj_heap_same hD, h.lm, h.so⟩
theorem BsJ.set (h : BsJ s f t z b k c c1 j Ds acc cur pb q cc sb lb bb D N best r w W) (v : Nat) : BsJ s f t z b k c c1 j Ds acc cur pb q cc sb lb bb D N v r w (W.setCell ⟨sb, 1, none⟩ (vi v)) := by
 obtain ⟨lp, h1, h2⟩ := h.me
 have h3 := h.so
 have h4 := h.lm.n
 have hg : W.grownBy (W.setCell ⟨sb, 1, none⟩ (vi v)) (some sb) := grown_set (p := ⟨sb, 1, none⟩) (grown_refl W (some sb)) (.inl rfl) _
 have ne : ∀ {x : Nat}, x ≠ sb -> some x ≠ some sb := fun h e => h (by injection e)
 exact ⟨⟨lp, h1.high hg (by omega), h2⟩, h.ch.fresh h.lm (by omega) hg, h.sp.set 1 (vi v), h.bx.grown hg (ne (by omega)), h.lx.grown hg (ne (by omega)), (hg.block _ (Array.getElem?_eq_some_iff.1 h.df).1 (ne (by omega))).trans h.df, (hg.block _ (Array.getElem?_eq_some_iff.1 h.lo).1 (ne (by omega))).trans h.lo, h.lm, h.so⟩
end
def bestK (c : Nat -> Nat -> Int) (n m k b i : Nat) : Nat := ((nearL n b).take i).foldl (fun best x => if restN c n bigN m (k + 1) x < restN c n bigN m (k + 1) best then x else best) b
theorem bestK_succ {c : Nat -> Nat -> Int} {n m k b i : Nat} (hi : i < cntN n b) : bestK c n m k b (i + 1) = if restN c n bigN m (k + 1) (loN b + i) < restN c n bigN m (k + 1) (bestK c n m k b i) then loN b + i else bestK c n m k b i := by
 unfold bestK
 rw [near_is, List.take_add_one, List.getElem?_range' hi, List.foldl_append, Option.toList_some, List.foldl_cons, List.foldl_nil, Nat.one_mul]
theorem bestK_lt {c : Nat -> Nat -> Int} {n m k b i : Nat} (hb : b < n) : bestK c n m k b i < n := by
 unfold bestK
 rcases (fold_best (f := restN c n bigN m (k + 1)) ((nearL n b).take i) b).1 with h | h
 ·rw [h]; exact hb
 ·exact ((mem_near hb).1 (List.mem_of_mem_take h)).1
theorem bestK_all (c : Nat -> Nat -> Int) (n m k b : Nat) : bestK c n m k b (cntN n b) = stepB c n bigN m k b := by
 unfold bestK stepB
 rw [near_all]
def vCell (H : Nat) (y : Int) (v : Value) (W : World) : Prop := ∃ g, v = .slice (some ⟨g, 0, none⟩) 1 1 /\ H <= g /\ Whole W g 3 #[vi y]
def vOwnJ (b n : Nat) (l : List Nat) (v : Value) (W : World) : Prop := ∃ g c', v = .slice (some ⟨g, 0, none⟩) n c' /\ W.ownsRow (b + 7) 3 1 (.slice (some ⟨g, 0, none⟩) n c') n (l.map fun x : Nat => vi x)
theorem vCell_far {H d : Nat} {y : Int} (hd : d < H) {v : Value} {W W' : World} (h : vCell H y v W) (hg : W.grownBy W' (some d)) : vCell H y v W' := by
 obtain ⟨g, h1, h2, h3⟩ := h
 exact ⟨g, h1, h2, h3.grown hg (fun e => by injection e; omega)⟩
theorem vOwnJ_far {b n d : Nat} {l : List Nat} (hd : d < b + 7) {v : Value} {W W' : World} (h : vOwnJ b n l v W) (hg : W.grownBy W' (some d)) : vOwnJ b n l v W' := by
 obtain ⟨g, c', h1, h2⟩ := h
 refine ⟨g, c', h1, h2.kept hg (.inr (fun e => ?_))⟩
 have e2 := own_ge h2 d e
 omega
structure ApJ (s : Sm) (f : Int) (t : Option Bool) (z b k c ce j : Nat) (Ds acc : List Nat) (cur pb q cc sb nx H : Nat) (lp : List ((Int × Int) × Int)) (w : World) (sg : Nat) (W : World) : Prop where
 me : RsM (rpOf s f t z b) lp W
 st : Whole W pb 154 #[vi c, vi cur]
 sp : Whole W sb 154 #[vi ce, vi nx]
 nw : newer w W
 ms : MarksOk Ds W
 sz : H <= W.heap.size
 hr : sg <= 1 -> Whole W (b + 1 + 1) 40 #[vi k, .slice (some ⟨q, 0, none⟩) (j + 1) cc]
 ow : sg = 0 -> W.ownsRow (b + 7) 3 1 (.slice (some ⟨q, 0, none⟩) (j + 1) cc) (j + 1) ((acc ++ [cur]).map fun x : Nat => vi x)
 fin : sg = 2 -> ∃ g c', Whole W (b + 1 + 1) 40 #[vi k, .slice (some ⟨g, 0, none⟩) (j + 1 + 1) c'] /\ W.ownsRow (b + 7) 3 1 (.slice (some ⟨g, 0, none⟩) (j + 1 + 1) c') (j + 1 + 1) ((acc ++ [cur] ++ [nx]).map fun x : Nat => vi x)
 lo : b + 7 <= pb /\ b + 7 <= q /\ b + 7 <= sb /\ (∀ D ∈ Ds, b + 7 <= D) /\ q ≠ pb /\ q ≠ sb /\ pb ≠ sb /\ q ∉ Ds /\ pb ∉ Ds /\ w.heap.size = b /\ q < H /\ b + 7 <= H
section
variable {s : Sm} {f : Int} {t : Option Bool} {z b k c ce j : Nat} {Ds acc : List Nat} {cur pb q cc sb nx H sg : Nat} {lp : List ((Int × Int) × Int)} {w W W' : World}
theorem ApJ.next (h : ApJ s f t z b k c ce j Ds acc cur pb q cc sb nx H lp w sg W) (hb : newer W W') : ApJ s f t z b k c ce j Ds acc cur pb q cc sb nx H lp w sg W' :=
 ⟨h.me.next hb, h.st.below hb h.st.lt, h.sp.below hb h.sp.lt, newer_trans h.nw hb, h.ms.next hb, Nat.le_trans h.sz hb.size, fun e => (h.hr e).below hb (h.hr e).lt, fun e => own_below (h.ow e) hb, fun e => by
  obtain ⟨g, c', h1, h2⟩ := h.fin e
  exact ⟨g, c', h1.below hb h1.lt, own_below h2 hb⟩, h.lo⟩
theorem ApJ.app (h : ApJ s f t z b k c ce j Ds acc cur pb q cc sb nx H lp w 0 W) (hg : W.grownBy W' (some q)) : ApJ s f t z b k c ce j Ds acc cur pb q cc sb nx H lp w 1 W' := by
 obtain ⟨h1, h2, h3, h4, h5, h6, h7, h8, h9, h10, h11, h12⟩ := h.lo
 have ne : ∀ {x : Nat}, q ≠ x -> some x ≠ some q := fun h e => h (by injection e with e; exact e.symm)
 exact ⟨h.me.high hg h2, h.st.grown hg (ne h5), h.sp.grown hg (ne h6), Below.trans h.nw (below_of_grown hg (by omega) h.nw.size), h.ms.grown hg h8, Nat.le_trans h.sz hg.size, fun _ => (h.hr (by omega)).grown hg (ne (by omega)), fun e => by omega, fun e => by omega, h.lo⟩
theorem ApJ.put (h : ApJ s f t z b k c ce j Ds acc cur pb q cc sb nx H lp w 1 W) {g c' : Nat} (ho : W.ownsRow (b + 7) 3 1 (.slice (some ⟨g, 0, none⟩) (j + 1 + 1) c') (j + 1 + 1) ((acc ++ [cur] ++ [nx]).map fun x : Nat => vi x)) : ApJ s f t z b k c ce j Ds acc cur pb q cc sb nx H lp w 2 (W.setCell ⟨b + 1 + 1, 1, none⟩ (.slice (some ⟨g, 0, none⟩) (j + 1 + 1) c')) := by
 obtain ⟨h1, h2, h3, h4, h5, h6, h7, h8, h9, h10, h11, h12⟩ := h.lo
 have hr := h.hr (by omega)
 have hg : W.grownBy (W.setCell ⟨b + 1 + 1, 1, none⟩ (.slice (some ⟨g, 0, none⟩) (j + 1 + 1) c')) (some (b + 1 + 1)) := grown_set (p := ⟨b + 1 + 1, 1, none⟩) (grown_refl W _) (.inl rfl) _
 have ne : ∀ {x : Nat}, b + 1 + 1 ≠ x -> some x ≠ some (b + 1 + 1) := fun h e => h (by injection e with e; exact e.symm)
 refine ⟨h.me.far hg (by simp only []; omega) (by simp only []; omega) (by simp only []; omega) (by simp only []; omega) (by simp only []; omega) (by simp only []; omega) (by simp only []; omega), h.st.grown hg (ne (by omega)), h.sp.grown hg (ne (by omega)), Below.trans h.nw (below_of_grown hg (by omega) h.nw.size), h.ms.grown hg (fun hm => by have := h4 _ hm; omega), Nat.le_trans h.sz hg.size, fun e => by omega, fun e => by omega, fun _ => ⟨g, c', hr.set 1 _, own_set ho (own_ne ho hr (by decide)) _⟩, h.lo⟩
theorem ApJ.done (h : ApJ s f t z b k c ce j Ds acc cur pb q cc sb nx H lp w 2 W) : ∃ g c', RsM (rpOf s f t z b) lp ((W.setCell ⟨pb, 0, none⟩ (vi ce)).setCell ⟨pb, 1, none⟩ (vi nx)) /\ Whole ((W.setCell ⟨pb, 0, none⟩ (vi ce)).setCell ⟨pb, 1, none⟩ (vi nx)) (b + 1 + 1) 40 #[vi k, .slice (some ⟨g, 0, none⟩) (j + 1 + 1) c'] /\ ((W.setCell ⟨pb, 0, none⟩ (vi ce)).setCell ⟨pb, 1, none⟩ (vi nx)).ownsRow (b + 7) 3 1 (.slice (some ⟨g, 0, none⟩) (j + 1 + 1) c') (j + 1 + 1) ((acc ++ [cur] ++ [nx]).map fun x : Nat => vi x) /\ Whole ((W.setCell ⟨pb, 0, none⟩ (vi ce)).setCell ⟨pb, 1, none⟩ (vi nx)) pb 154 #[vi ce, vi nx] /\ newer w ((W.setCell ⟨pb, 0, none⟩ (vi ce)).setCell ⟨pb, 1, none⟩ (vi nx)) /\ MarksOk Ds ((W.setCell ⟨pb, 0, none⟩ (vi ce)).setCell ⟨pb, 1, none⟩ (vi nx)) /\ b + 7 <= ((W.setCell ⟨pb, 0, none⟩ (vi ce)).setCell ⟨pb, 1, none⟩ (vi nx)).heap.size /\ (∀ D ∈ Ds, b + 7 <= D) /\ w.heap.size = b := by
 obtain ⟨h1, h2, h3, h4, h5, h6, h7, h8, h9, h10, h11, h12⟩ := h.lo
 obtain ⟨g, c', e1, e2⟩ := h.fin rfl
 have hg : W.grownBy ((W.setCell ⟨pb, 0, none⟩ (vi ce)).setCell ⟨pb, 1, none⟩ (vi nx)) (some pb) := grown_set (p := ⟨pb, 1, none⟩) (grown_set (p := ⟨pb, 0, none⟩) (grown_refl W _) (.inl rfl) _) (.inl rfl) _
 exact ⟨g, c', h.me.high hg h1, e1.grown hg (fun e => by injection e; omega), own_set (own_set e2 (own_ne e2 h.st (by decide)) _) (own_ne e2 h.st (by decide)) _, (h.st.set 0 (vi ce)).set 1 (vi nx), Below.trans h.nw (below_of_grown hg (by omega) h.nw.size), h.ms.grown hg h9, Nat.le_trans (Nat.le_trans h12 h.sz) hg.size, h4, h10⟩
end
theorem own_same {W W' : World} {base : Nat} {e : TypeId} {size n : Nat} {v : Value} {xs : List Value} (h : W.ownsRow base e size v n xs) (hs : ∀ k, v.ownBlock = some k -> W'.heap[k]? = W.heap[k]?) : W'.ownsRow base e size v n xs := by
 rcases h.2 with h0 | ⟨g, cap, cur, hv, hb, hg, hr⟩
 ·exact ⟨h.1, .inl h0⟩
 ·exact ⟨h.1, .inr ⟨g, cap, cur, hv, hb, (hs g (by rw [hv]; rfl)).trans hg, hr⟩⟩
end

end Go.Proofs.Ytcdhhfgpdokkoaa
