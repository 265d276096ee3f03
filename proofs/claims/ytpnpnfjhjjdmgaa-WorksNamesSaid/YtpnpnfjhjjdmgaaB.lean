/- The tests of lists in the works layer: all, ContainsFunc and IndexFunc at four types. -/
import Derived.Test.YtpnpnfjhjjdmgaaA
namespace Go.Proofs.Ytpnpnfjhjjdmgaa
open Go.RowKit

theorem hrow_ok {α : Type} {enc : α → List Value} {s : Nat} {w : World} {A : Option Addr} {l : List α} (h : Row enc s w w.heap.size A l) (o : Obj) : Row enc s (w.alloc o) (w.alloc o).heap.size A l := row_alloc h o

/-! ## Purse -/
set_option maxHeartbeats 400000 in
theorem notPurse_any (x : Int) (rb : Nat) (b : Bool) (w : World) (hr : w.cell? ⟨rb, 0, none⟩ = some (.func (.func 47) #[] #[]))
    (hf : ∀ W, Below w.heap.size w W → Calls Try.prog 47 #[vi x] W fun e w' => e = .returned (.bool b) ∧ Below W.heap.size W w') :
    Calls Try.prog 71 #[vi x, .pointer (some ⟨rb, 0, none⟩)] w fun e w' => e = .returned (.bool (!b)) ∧ Below w.heap.size w w' := by
  have HF := Lib.hid hf
  have hlt := World.block_lt_of_cell? w _ hr
  dsimp only at hlt
  clear hf
  go_enter Try.func71, Try.ntmps71
  go_wp2_with (go_at_call 47; refine (HF.out _ (Below.refl _ _)).mono ?_; rintro e w' ⟨rfl, hb⟩)
  go_ret
  exact ⟨rfl, hb⟩
set_option maxHeartbeats 400000 in
theorem idxPurse_any (l : List Int) (p : Int → Bool) (cp rb : Nat) (A : Option Addr) (w : World) (hn : l.length ≤ 1000) (hrow : Row intL 1 w w.heap.size A l)
    (hf : ∀ c ∈ l, ∀ W, Below w.heap.size w W → Calls Try.prog 71 #[vi c, .pointer (some ⟨rb, 0, none⟩)] W fun e w' => e = .returned (.bool (p c)) ∧ Below W.heap.size W w') :
    Calls Try.prog 87 #[.slice A l.length cp, .func (.func 71) #[] #[.pointer (some ⟨rb, 0, none⟩)]] w fun e w' => e = .returned (.int .i64 (idx p l)) ∧ Below w.heap.size w w' := by
  have HF := Lib.hid hf
  clear hf
  obtain ⟨n, hnl⟩ : ∃ n, n = l.length := ⟨_, rfl⟩
  rw [← hnl] at hn ⊢
  have HN := Lib.hid hnl
  clear hnl
  go_enter Try.func87, Try.ntmps87
  go_wp2
  go_loopw [4, 5, 8] (fun _ _ i wr => ∃ k : Nat, k ≤ n ∧ i = .int .i64 k ∧ Below w.heap.size w wr ∧ early p l k) (fun _ _ i _ => n - (intOf i).toNat)
  case atStart => exact ⟨0, Nat.zero_le _, rfl, Below.refl _ _, early_zero _ _⟩
  case round =>
    obtain ⟨k, hk, rfl, hbw, he⟩ := hrel
    have HE := Lib.hid he
    clear he
    by_cases hlt : k < n
    · obtain ⟨c, hc⟩ := get_of_lt (l := l) (k := k) (by have := HN.out; omega)
      obtain ⟨b, off, rfl, hb, h0⟩ := row1 (hrow.below hbw) hc
      have HC := Lib.hid hc
      clear hc
      cases hp : p c
      · go_wp2_with (go_at_call 71; refine (HF.out c (List.mem_of_getElem? HC.out) _ hbw).mono ?_; rintro e w' ⟨rfl, hb2⟩)
        go_roundw
        case rel => exact ⟨k + 1, by omega, by go_num, below_next hbw hb2, early_succ HE.out HC.out hp⟩
        case measure => simp [intOf]; omega
      · go_wp2_with (go_at_call 71; refine (HF.out c (List.mem_of_getElem? HC.out) _ hbw).mono ?_; rintro e w' ⟨rfl, hb2⟩)
        go_ret
        exact ⟨ret_int (idx_here p l k c HC.out hp HE.out).symm, below_next hbw hb2⟩
    · go_wp2_with fail
      go_ret
      have hkn : k = l.length := by have := HN.out; omega
      exact ⟨ret_int (idx_none p l (hkn ▸ HE.out)).symm, hbw⟩
set_option maxHeartbeats 400000 in
theorem containsPurse_any (l : List Int) (p : Int → Bool) (cp rb : Nat) (A : Option Addr) (w : World) (hn : l.length ≤ 1000) (hrow : Row intL 1 w w.heap.size A l)
    (hf : ∀ c ∈ l, ∀ W, Below w.heap.size w W → Calls Try.prog 71 #[vi c, .pointer (some ⟨rb, 0, none⟩)] W fun e w' => e = .returned (.bool (p c)) ∧ Below W.heap.size W w') :
    Calls Try.prog 70 #[.slice A l.length cp, .func (.func 71) #[] #[.pointer (some ⟨rb, 0, none⟩)]] w fun e w' => e = .returned (.bool (decide (0 ≤ idx p l))) ∧ Below w.heap.size w w' := by
  have HF := Lib.hid hf
  clear hf
  go_enter Try.func70, Try.ntmps70
  go_wp2_with (go_at_call 87; refine (idxPurse_any l p cp rb A _ hn hrow HF.out).mono ?_; rintro e w' ⟨rfl, hb2⟩)
  go_ret
  exact ⟨rfl, hb2⟩
set_option maxHeartbeats 400000 in
theorem allPurse_any (l : List Int) (p : Int → Bool) (cp : Nat) (A : Option Addr) (w : World) (hn : l.length ≤ 1000) (hrow : Row intL 1 w w.heap.size A l)
    (hf : ∀ c ∈ l, ∀ W, Below w.heap.size w W → Calls Try.prog 47 #[vi c] W fun e w' => e = .returned (.bool (p c)) ∧ Below W.heap.size W w') :
    Calls Try.prog 49 #[.slice A l.length cp, .func (.func 47) #[] #[]] w fun e w' => e = .returned (.bool (l.all p)) ∧ Below w.heap.size w w' := by
  have hX := containsPurse_any l (fun c => !p c) cp w.heap.size A (w.alloc (.cells #[.func (.func 47) #[] #[]] 90)) hn (hrow_ok hrow _) (fun c hc W hW => notPurse_any c w.heap.size (p c) W (keep_cell (Whole.at (Whole.made w 90 #[.func (.func 47) #[] #[]]) 0 rfl) hW) fun W' hW' => hf c hc W' (below_next (below_next ((Below.refl _ _).alloc (Nat.le_refl _) _) hW) hW'))
  have HX := Lib.hid hX
  clear hX hf
  go_enter Try.func49, Try.ntmps49
  go_wp2_with (go_at_call 70; refine (HX.out).mono ?_; rintro e w' ⟨rfl, hb2⟩)
  go_ret
  exact ⟨ret_bool (idx_all p l), below_next ((Below.refl _ _).alloc (Nat.le_refl _) _) hb2⟩

/-! ## Share -/
set_option maxHeartbeats 400000 in
theorem notShare_any (x : Int) (rb : Nat) (b : Bool) (w : World) (hr : w.cell? ⟨rb, 0, none⟩ = some (.func (.func 61) #[] #[]))
    (hf : ∀ W, Below w.heap.size w W → Calls Try.prog 61 #[vi x] W fun e w' => e = .returned (.bool b) ∧ Below W.heap.size W w') :
    Calls Try.prog 71 #[vi x, .pointer (some ⟨rb, 0, none⟩)] w fun e w' => e = .returned (.bool (!b)) ∧ Below w.heap.size w w' := by
  have HF := Lib.hid hf
  have hlt := World.block_lt_of_cell? w _ hr
  dsimp only at hlt
  clear hf
  go_enter Try.func71, Try.ntmps71
  go_wp2_with (go_at_call 61; refine (HF.out _ (Below.refl _ _)).mono ?_; rintro e w' ⟨rfl, hb⟩)
  go_ret
  exact ⟨rfl, hb⟩
set_option maxHeartbeats 400000 in
theorem idxShare_any (l : List Int) (p : Int → Bool) (cp rb : Nat) (A : Option Addr) (w : World) (hn : l.length ≤ 1000) (hrow : Row intL 1 w w.heap.size A l)
    (hf : ∀ c ∈ l, ∀ W, Below w.heap.size w W → Calls Try.prog 71 #[vi c, .pointer (some ⟨rb, 0, none⟩)] W fun e w' => e = .returned (.bool (p c)) ∧ Below W.heap.size W w') :
    Calls Try.prog 87 #[.slice A l.length cp, .func (.func 71) #[] #[.pointer (some ⟨rb, 0, none⟩)]] w fun e w' => e = .returned (.int .i64 (idx p l)) ∧ Below w.heap.size w w' := by
  have HF := Lib.hid hf
  clear hf
  obtain ⟨n, hnl⟩ : ∃ n, n = l.length := ⟨_, rfl⟩
  rw [← hnl] at hn ⊢
  have HN := Lib.hid hnl
  clear hnl
  go_enter Try.func87, Try.ntmps87
  go_wp2
  go_loopw [4, 5, 8] (fun _ _ i wr => ∃ k : Nat, k ≤ n ∧ i = .int .i64 k ∧ Below w.heap.size w wr ∧ early p l k) (fun _ _ i _ => n - (intOf i).toNat)
  case atStart => exact ⟨0, Nat.zero_le _, rfl, Below.refl _ _, early_zero _ _⟩
  case round =>
    obtain ⟨k, hk, rfl, hbw, he⟩ := hrel
    have HE := Lib.hid he
    clear he
    by_cases hlt : k < n
    · obtain ⟨c, hc⟩ := get_of_lt (l := l) (k := k) (by have := HN.out; omega)
      obtain ⟨b, off, rfl, hb, h0⟩ := row1 (hrow.below hbw) hc
      have HC := Lib.hid hc
      clear hc
      cases hp : p c
      · go_wp2_with (go_at_call 71; refine (HF.out c (List.mem_of_getElem? HC.out) _ hbw).mono ?_; rintro e w' ⟨rfl, hb2⟩)
        go_roundw
        case rel => exact ⟨k + 1, by omega, by go_num, below_next hbw hb2, early_succ HE.out HC.out hp⟩
        case measure => simp [intOf]; omega
      · go_wp2_with (go_at_call 71; refine (HF.out c (List.mem_of_getElem? HC.out) _ hbw).mono ?_; rintro e w' ⟨rfl, hb2⟩)
        go_ret
        exact ⟨ret_int (idx_here p l k c HC.out hp HE.out).symm, below_next hbw hb2⟩
    · go_wp2_with fail
      go_ret
      have hkn : k = l.length := by have := HN.out; omega
      exact ⟨ret_int (idx_none p l (hkn ▸ HE.out)).symm, hbw⟩
set_option maxHeartbeats 400000 in
theorem containsShare_any (l : List Int) (p : Int → Bool) (cp rb : Nat) (A : Option Addr) (w : World) (hn : l.length ≤ 1000) (hrow : Row intL 1 w w.heap.size A l)
    (hf : ∀ c ∈ l, ∀ W, Below w.heap.size w W → Calls Try.prog 71 #[vi c, .pointer (some ⟨rb, 0, none⟩)] W fun e w' => e = .returned (.bool (p c)) ∧ Below W.heap.size W w') :
    Calls Try.prog 70 #[.slice A l.length cp, .func (.func 71) #[] #[.pointer (some ⟨rb, 0, none⟩)]] w fun e w' => e = .returned (.bool (decide (0 ≤ idx p l))) ∧ Below w.heap.size w w' := by
  have HF := Lib.hid hf
  clear hf
  go_enter Try.func70, Try.ntmps70
  go_wp2_with (go_at_call 87; refine (idxShare_any l p cp rb A _ hn hrow HF.out).mono ?_; rintro e w' ⟨rfl, hb2⟩)
  go_ret
  exact ⟨rfl, hb2⟩
set_option maxHeartbeats 400000 in
theorem allShare_any (l : List Int) (p : Int → Bool) (cp : Nat) (A : Option Addr) (w : World) (hn : l.length ≤ 1000) (hrow : Row intL 1 w w.heap.size A l)
    (hf : ∀ c ∈ l, ∀ W, Below w.heap.size w W → Calls Try.prog 61 #[vi c] W fun e w' => e = .returned (.bool (p c)) ∧ Below W.heap.size W w') :
    Calls Try.prog 49 #[.slice A l.length cp, .func (.func 61) #[] #[]] w fun e w' => e = .returned (.bool (l.all p)) ∧ Below w.heap.size w w' := by
  have hX := containsShare_any l (fun c => !p c) cp w.heap.size A (w.alloc (.cells #[.func (.func 61) #[] #[]] 90)) hn (hrow_ok hrow _) (fun c hc W hW => notShare_any c w.heap.size (p c) W (keep_cell (Whole.at (Whole.made w 90 #[.func (.func 61) #[] #[]]) 0 rfl) hW) fun W' hW' => hf c hc W' (below_next (below_next ((Below.refl _ _).alloc (Nat.le_refl _) _) hW) hW'))
  have HX := Lib.hid hX
  clear hX hf
  go_enter Try.func49, Try.ntmps49
  go_wp2_with (go_at_call 70; refine (HX.out).mono ?_; rintro e w' ⟨rfl, hb2⟩)
  go_ret
  exact ⟨ret_bool (idx_all p l), below_next ((Below.refl _ _).alloc (Nat.le_refl _) _) hb2⟩

/-! ## Rg -/
set_option maxHeartbeats 400000 in
theorem notRg_any (x : Rg) (rb : Nat) (b : Bool) (w : World) (hr : w.cell? ⟨rb, 0, none⟩ = some (.func (.func 75) #[] #[]))
    (hf : ∀ W, Below w.heap.size w W → Calls Try.prog 75 #[rgV x] W fun e w' => e = .returned (.bool b) ∧ Below W.heap.size W w') :
    Calls Try.prog 90 #[rgV x, .pointer (some ⟨rb, 0, none⟩)] w fun e w' => e = .returned (.bool (!b)) ∧ Below w.heap.size w w' := by
  have HF := Lib.hid hf
  have hlt := World.block_lt_of_cell? w _ hr
  dsimp only at hlt
  clear hf
  go_enter Try.func90, Try.ntmps90
  go_wp2_with (go_at_call 75; refine (HF.out _ ((Below.refl _ _).alloc (Nat.le_refl _) _)).mono ?_; rintro e w' ⟨rfl, hb⟩)
  go_ret
  exact ⟨rfl, below_step ((Below.refl _ _).alloc (Nat.le_refl _) _) hb (by simp)⟩
set_option maxHeartbeats 400000 in
theorem idxRg_any (l : List Rg) (p : Rg → Bool) (cp rb : Nat) (A : Option Addr) (w : World) (hn : l.length ≤ 1000) (hrow : Row rgL 2 w w.heap.size A l)
    (hf : ∀ c ∈ l, ∀ W, Below w.heap.size w W → Calls Try.prog 90 #[rgV c, .pointer (some ⟨rb, 0, none⟩)] W fun e w' => e = .returned (.bool (p c)) ∧ Below W.heap.size W w') :
    Calls Try.prog 92 #[.slice A l.length cp, .func (.func 90) #[] #[.pointer (some ⟨rb, 0, none⟩)]] w fun e w' => e = .returned (.int .i64 (idx p l)) ∧ Below w.heap.size w w' := by
  have HF := Lib.hid hf
  clear hf
  obtain ⟨n, hnl⟩ : ∃ n, n = l.length := ⟨_, rfl⟩
  rw [← hnl] at hn ⊢
  have HN := Lib.hid hnl
  clear hnl
  go_enter Try.func92, Try.ntmps92
  go_wp2
  go_loopw [4, 5, 8] (fun _ _ i wr => ∃ k : Nat, k ≤ n ∧ i = .int .i64 k ∧ Below w.heap.size w wr ∧ early p l k) (fun _ _ i _ => n - (intOf i).toNat)
  case atStart => exact ⟨0, Nat.zero_le _, rfl, Below.refl _ _, early_zero _ _⟩
  case round =>
    obtain ⟨k, hk, rfl, hbw, he⟩ := hrel
    have HE := Lib.hid he
    clear he
    by_cases hlt : k < n
    · obtain ⟨c, hc⟩ := get_of_lt (l := l) (k := k) (by have := HN.out; omega)
      obtain ⟨b, off, rfl, hb, h0, h1⟩ := row2 (hrow.below hbw) hc
      have HC := Lib.hid hc
      clear hc
      cases hp : p c
      · go_wp2_with (go_at_call 90; refine (HF.out c (List.mem_of_getElem? HC.out) _ hbw).mono ?_; rintro e w' ⟨rfl, hb2⟩)
        go_roundw
        case rel => exact ⟨k + 1, by omega, by go_num, below_next hbw hb2, early_succ HE.out HC.out hp⟩
        case measure => simp [intOf]; omega
      · go_wp2_with (go_at_call 90; refine (HF.out c (List.mem_of_getElem? HC.out) _ hbw).mono ?_; rintro e w' ⟨rfl, hb2⟩)
        go_ret
        exact ⟨ret_int (idx_here p l k c HC.out hp HE.out).symm, below_next hbw hb2⟩
    · go_wp2_with fail
      go_ret
      have hkn : k = l.length := by have := HN.out; omega
      exact ⟨ret_int (idx_none p l (hkn ▸ HE.out)).symm, hbw⟩
set_option maxHeartbeats 400000 in
theorem containsRg_any (l : List Rg) (p : Rg → Bool) (cp rb : Nat) (A : Option Addr) (w : World) (hn : l.length ≤ 1000) (hrow : Row rgL 2 w w.heap.size A l)
    (hf : ∀ c ∈ l, ∀ W, Below w.heap.size w W → Calls Try.prog 90 #[rgV c, .pointer (some ⟨rb, 0, none⟩)] W fun e w' => e = .returned (.bool (p c)) ∧ Below W.heap.size W w') :
    Calls Try.prog 89 #[.slice A l.length cp, .func (.func 90) #[] #[.pointer (some ⟨rb, 0, none⟩)]] w fun e w' => e = .returned (.bool (decide (0 ≤ idx p l))) ∧ Below w.heap.size w w' := by
  have HF := Lib.hid hf
  clear hf
  go_enter Try.func89, Try.ntmps89
  go_wp2_with (go_at_call 92; refine (idxRg_any l p cp rb A _ hn hrow HF.out).mono ?_; rintro e w' ⟨rfl, hb2⟩)
  go_ret
  exact ⟨rfl, hb2⟩
set_option maxHeartbeats 400000 in
theorem allRg_any (l : List Rg) (p : Rg → Bool) (cp : Nat) (A : Option Addr) (w : World) (hn : l.length ≤ 1000) (hrow : Row rgL 2 w w.heap.size A l)
    (hf : ∀ c ∈ l, ∀ W, Below w.heap.size w W → Calls Try.prog 75 #[rgV c] W fun e w' => e = .returned (.bool (p c)) ∧ Below W.heap.size W w') :
    Calls Try.prog 74 #[.slice A l.length cp, .func (.func 75) #[] #[]] w fun e w' => e = .returned (.bool (l.all p)) ∧ Below w.heap.size w w' := by
  have hX := containsRg_any l (fun c => !p c) cp w.heap.size A (w.alloc (.cells #[.func (.func 75) #[] #[]] 114)) hn (hrow_ok hrow _) (fun c hc W hW => notRg_any c w.heap.size (p c) W (keep_cell (Whole.at (Whole.made w 114 #[.func (.func 75) #[] #[]]) 0 rfl) hW) fun W' hW' => hf c hc W' (below_next (below_next ((Below.refl _ _).alloc (Nat.le_refl _) _) hW) hW'))
  have HX := Lib.hid hX
  clear hX hf
  go_enter Try.func74, Try.ntmps74
  go_wp2_with (go_at_call 89; refine (HX.out).mono ?_; rintro e w' ⟨rfl, hb2⟩)
  go_ret
  exact ⟨ret_bool (idx_all p l), below_next ((Below.refl _ _).alloc (Nat.le_refl _) _) hb2⟩

/-! ## Wk -/
set_option maxHeartbeats 400000 in
theorem notWk_any (x : Wk) (rb : Nat) (b : Bool) (w : World) (q : Value) (hr : w.cell? ⟨rb, 0, none⟩ = some (.func (.func 51) #[q] #[]))
    (hf : ∀ W, Below w.heap.size w W → Calls Try.prog 51 #[q, wkV x] W fun e w' => e = .returned (.bool b) ∧ Below W.heap.size W w') :
    Calls Try.prog 73 #[wkV x, .pointer (some ⟨rb, 0, none⟩)] w fun e w' => e = .returned (.bool (!b)) ∧ Below w.heap.size w w' := by
  have HF := Lib.hid hf
  have hlt := World.block_lt_of_cell? w _ hr
  dsimp only at hlt
  clear hf
  go_enter Try.func73, Try.ntmps73
  go_wp2_with (go_at_call 51; refine (HF.out _ ((Below.refl _ _).alloc (Nat.le_refl _) _)).mono ?_; rintro e w' ⟨rfl, hb⟩)
  go_ret
  exact ⟨rfl, below_step ((Below.refl _ _).alloc (Nat.le_refl _) _) hb (by simp)⟩
set_option maxHeartbeats 400000 in
theorem idxWk_any (l : List Wk) (p : Wk → Bool) (cp rb : Nat) (A : Option Addr) (w : World) (hn : l.length ≤ 1000) (hrow : Row wkL 6 w w.heap.size A l)
    (hf : ∀ c ∈ l, ∀ W, Below w.heap.size w W → Calls Try.prog 73 #[wkV c, .pointer (some ⟨rb, 0, none⟩)] W fun e w' => e = .returned (.bool (p c)) ∧ Below W.heap.size W w') :
    Calls Try.prog 88 #[.slice A l.length cp, .func (.func 73) #[] #[.pointer (some ⟨rb, 0, none⟩)]] w fun e w' => e = .returned (.int .i64 (idx p l)) ∧ Below w.heap.size w w' := by
  have HF := Lib.hid hf
  clear hf
  obtain ⟨n, hnl⟩ : ∃ n, n = l.length := ⟨_, rfl⟩
  rw [← hnl] at hn ⊢
  have HN := Lib.hid hnl
  clear hnl
  go_enter Try.func88, Try.ntmps88
  go_wp2
  go_loopw [4, 5, 8] (fun _ _ i wr => ∃ k : Nat, k ≤ n ∧ i = .int .i64 k ∧ Below w.heap.size w wr ∧ early p l k) (fun _ _ i _ => n - (intOf i).toNat)
  case atStart => exact ⟨0, Nat.zero_le _, rfl, Below.refl _ _, early_zero _ _⟩
  case round =>
    obtain ⟨k, hk, rfl, hbw, he⟩ := hrel
    have HE := Lib.hid he
    clear he
    by_cases hlt : k < n
    · obtain ⟨c, hc⟩ := get_of_lt (l := l) (k := k) (by have := HN.out; omega)
      obtain ⟨b, off, rfl, hb, h0, h1, h2, h3, h4, h5⟩ := row6 (hrow.below hbw) hc
      have HC := Lib.hid hc
      clear hc
      cases hp : p c
      · go_wp2_with (go_at_call 73; refine (HF.out c (List.mem_of_getElem? HC.out) _ hbw).mono ?_; rintro e w' ⟨rfl, hb2⟩)
        go_roundw
        case rel => exact ⟨k + 1, by omega, by go_num, below_next hbw hb2, early_succ HE.out HC.out hp⟩
        case measure => simp [intOf]; omega
      · go_wp2_with (go_at_call 73; refine (HF.out c (List.mem_of_getElem? HC.out) _ hbw).mono ?_; rintro e w' ⟨rfl, hb2⟩)
        go_ret
        exact ⟨ret_int (idx_here p l k c HC.out hp HE.out).symm, below_next hbw hb2⟩
    · go_wp2_with fail
      go_ret
      have hkn : k = l.length := by have := HN.out; omega
      exact ⟨ret_int (idx_none p l (hkn ▸ HE.out)).symm, hbw⟩
set_option maxHeartbeats 400000 in
theorem containsWk_any (l : List Wk) (p : Wk → Bool) (cp rb : Nat) (A : Option Addr) (w : World) (hn : l.length ≤ 1000) (hrow : Row wkL 6 w w.heap.size A l)
    (hf : ∀ c ∈ l, ∀ W, Below w.heap.size w W → Calls Try.prog 73 #[wkV c, .pointer (some ⟨rb, 0, none⟩)] W fun e w' => e = .returned (.bool (p c)) ∧ Below W.heap.size W w') :
    Calls Try.prog 72 #[.slice A l.length cp, .func (.func 73) #[] #[.pointer (some ⟨rb, 0, none⟩)]] w fun e w' => e = .returned (.bool (decide (0 ≤ idx p l))) ∧ Below w.heap.size w w' := by
  have HF := Lib.hid hf
  clear hf
  go_enter Try.func72, Try.ntmps72
  go_wp2_with (go_at_call 88; refine (idxWk_any l p cp rb A _ hn hrow HF.out).mono ?_; rintro e w' ⟨rfl, hb2⟩)
  go_ret
  exact ⟨rfl, hb2⟩
set_option maxHeartbeats 400000 in
theorem allWk_any (l : List Wk) (p : Wk → Bool) (cp : Nat) (A : Option Addr) (w : World) (q : Value) (hn : l.length ≤ 1000) (hrow : Row wkL 6 w w.heap.size A l)
    (hf : ∀ c ∈ l, ∀ W, Below w.heap.size w W → Calls Try.prog 51 #[q, wkV c] W fun e w' => e = .returned (.bool (p c)) ∧ Below W.heap.size W w') :
    Calls Try.prog 50 #[.slice A l.length cp, .func (.func 51) #[q] #[]] w fun e w' => e = .returned (.bool (l.all p)) ∧ Below w.heap.size w w' := by
  have hX := containsWk_any l (fun c => !p c) cp w.heap.size A (w.alloc (.cells #[.func (.func 51) #[q] #[]] 93)) hn (hrow_ok hrow _) (fun c hc W hW => notWk_any c w.heap.size (p c) W q (keep_cell (Whole.at (Whole.made w 93 #[.func (.func 51) #[q] #[]]) 0 rfl) hW) fun W' hW' => hf c hc W' (below_next (below_next ((Below.refl _ _).alloc (Nat.le_refl _) _) hW) hW'))
  have HX := Lib.hid hX
  clear hX hf
  go_enter Try.func50, Try.ntmps50
  go_wp2_with (go_at_call 72; refine (HX.out).mono ?_; rintro e w' ⟨rfl, hb2⟩)
  go_ret
  exact ⟨ret_bool (idx_all p l), below_next ((Below.refl _ _).alloc (Nat.le_refl _) _) hb2⟩

/-! ## Nd -/
set_option maxHeartbeats 400000 in
theorem notNd_any (x : Nd) (rb : Nat) (b : Bool) (w : World) (q : Value) (hr : w.cell? ⟨rb, 0, none⟩ = some (.func (.func 53) #[q] #[]))
    (hf : ∀ W, Below w.heap.size w W → Calls Try.prog 53 #[q, ndV x] W fun e w' => e = .returned (.bool b) ∧ Below W.heap.size W w') :
    Calls Try.prog 77 #[ndV x, .pointer (some ⟨rb, 0, none⟩)] w fun e w' => e = .returned (.bool (!b)) ∧ Below w.heap.size w w' := by
  have HF := Lib.hid hf
  have hlt := World.block_lt_of_cell? w _ hr
  dsimp only at hlt
  clear hf
  go_enter Try.func77, Try.ntmps77
  go_wp2_with (go_at_call 53; refine (HF.out _ ((Below.refl _ _).alloc (Nat.le_refl _) _)).mono ?_; rintro e w' ⟨rfl, hb⟩)
  go_ret
  exact ⟨rfl, below_step ((Below.refl _ _).alloc (Nat.le_refl _) _) hb (by simp)⟩
set_option maxHeartbeats 400000 in
theorem idxNd_any (l : List Nd) (p : Nd → Bool) (cp rb : Nat) (A : Option Addr) (w : World) (hn : l.length ≤ 1000) (hrow : Row ndL 3 w w.heap.size A l)
    (hf : ∀ c ∈ l, ∀ W, Below w.heap.size w W → Calls Try.prog 77 #[ndV c, .pointer (some ⟨rb, 0, none⟩)] W fun e w' => e = .returned (.bool (p c)) ∧ Below W.heap.size W w') :
    Calls Try.prog 91 #[.slice A l.length cp, .func (.func 77) #[] #[.pointer (some ⟨rb, 0, none⟩)]] w fun e w' => e = .returned (.int .i64 (idx p l)) ∧ Below w.heap.size w w' := by
  have HF := Lib.hid hf
  clear hf
  obtain ⟨n, hnl⟩ : ∃ n, n = l.length := ⟨_, rfl⟩
  rw [← hnl] at hn ⊢
  have HN := Lib.hid hnl
  clear hnl
  go_enter Try.func91, Try.ntmps91
  go_wp2
  go_loopw [4, 5, 8] (fun _ _ i wr => ∃ k : Nat, k ≤ n ∧ i = .int .i64 k ∧ Below w.heap.size w wr ∧ early p l k) (fun _ _ i _ => n - (intOf i).toNat)
  case atStart => exact ⟨0, Nat.zero_le _, rfl, Below.refl _ _, early_zero _ _⟩
  case round =>
    obtain ⟨k, hk, rfl, hbw, he⟩ := hrel
    have HE := Lib.hid he
    clear he
    by_cases hlt : k < n
    · obtain ⟨c, hc⟩ := get_of_lt (l := l) (k := k) (by have := HN.out; omega)
      obtain ⟨b, off, rfl, hb, h0, h1, h2⟩ := row3 (hrow.below hbw) hc
      have HC := Lib.hid hc
      clear hc
      cases hp : p c
      · go_wp2_with (go_at_call 77; refine (HF.out c (List.mem_of_getElem? HC.out) _ hbw).mono ?_; rintro e w' ⟨rfl, hb2⟩)
        go_roundw
        case rel => exact ⟨k + 1, by omega, by go_num, below_next hbw hb2, early_succ HE.out HC.out hp⟩
        case measure => simp [intOf]; omega
      · go_wp2_with (go_at_call 77; refine (HF.out c (List.mem_of_getElem? HC.out) _ hbw).mono ?_; rintro e w' ⟨rfl, hb2⟩)
        go_ret
        exact ⟨ret_int (idx_here p l k c HC.out hp HE.out).symm, below_next hbw hb2⟩
    · go_wp2_with fail
      go_ret
      have hkn : k = l.length := by have := HN.out; omega
      exact ⟨ret_int (idx_none p l (hkn ▸ HE.out)).symm, hbw⟩
set_option maxHeartbeats 400000 in
theorem containsNd_any (l : List Nd) (p : Nd → Bool) (cp rb : Nat) (A : Option Addr) (w : World) (hn : l.length ≤ 1000) (hrow : Row ndL 3 w w.heap.size A l)
    (hf : ∀ c ∈ l, ∀ W, Below w.heap.size w W → Calls Try.prog 77 #[ndV c, .pointer (some ⟨rb, 0, none⟩)] W fun e w' => e = .returned (.bool (p c)) ∧ Below W.heap.size W w') :
    Calls Try.prog 76 #[.slice A l.length cp, .func (.func 77) #[] #[.pointer (some ⟨rb, 0, none⟩)]] w fun e w' => e = .returned (.bool (decide (0 ≤ idx p l))) ∧ Below w.heap.size w w' := by
  have HF := Lib.hid hf
  clear hf
  go_enter Try.func76, Try.ntmps76
  go_wp2_with (go_at_call 91; refine (idxNd_any l p cp rb A _ hn hrow HF.out).mono ?_; rintro e w' ⟨rfl, hb2⟩)
  go_ret
  exact ⟨rfl, hb2⟩
set_option maxHeartbeats 400000 in
theorem allNd_any (l : List Nd) (p : Nd → Bool) (cp : Nat) (A : Option Addr) (w : World) (q : Value) (hn : l.length ≤ 1000) (hrow : Row ndL 3 w w.heap.size A l)
    (hf : ∀ c ∈ l, ∀ W, Below w.heap.size w W → Calls Try.prog 53 #[q, ndV c] W fun e w' => e = .returned (.bool (p c)) ∧ Below W.heap.size W w') :
    Calls Try.prog 52 #[.slice A l.length cp, .func (.func 53) #[q] #[]] w fun e w' => e = .returned (.bool (l.all p)) ∧ Below w.heap.size w w' := by
  have hX := containsNd_any l (fun c => !p c) cp w.heap.size A (w.alloc (.cells #[.func (.func 53) #[q] #[]] 95)) hn (hrow_ok hrow _) (fun c hc W hW => notNd_any c w.heap.size (p c) W q (keep_cell (Whole.at (Whole.made w 95 #[.func (.func 53) #[q] #[]]) 0 rfl) hW) fun W' hW' => hf c hc W' (below_next (below_next ((Below.refl _ _).alloc (Nat.le_refl _) _) hW) hW'))
  have HX := Lib.hid hX
  clear hX hf
  go_enter Try.func52, Try.ntmps52
  go_wp2_with (go_at_call 76; refine (HX.out).mono ?_; rintro e w' ⟨rfl, hb2⟩)
  go_ret
  exact ⟨ret_bool (idx_all p l), below_next ((Below.refl _ _).alloc (Nat.le_refl _) _) hb2⟩
end Go.Proofs.Ytpnpnfjhjjdmgaa
