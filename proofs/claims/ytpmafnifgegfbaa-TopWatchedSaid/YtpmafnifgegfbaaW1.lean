/- A watch: its map, how it begins, the gauges that may have failed. -/
import Derived.Test.YtpmafnifgegfbaaAB
import Derived.Test.YtpmafnifgegfbaaCA
import Derived.Test.YtpmafnifgegfbaaT
namespace Go.Proofs.Ytpmafnifgegfbaa
open Go.RowKit Go.Deep

/-- A post. -/
structure Po where
  es : List Int
  fall : Int
  out : Int
  g : Int
  d : Int
  ah : Int
/-- A post in memory. -/
structure Pm where
  p : Po
  a : Option Addr
  c : Nat
abbrev pmC (x : Pm) : Array Value := #[.slice x.a x.p.es.length x.c, vi x.p.g, vi x.p.d, vi x.p.fall, vi x.p.out, vi x.p.ah]
abbrev pmV (x : Pm) : Value := .agg (pmC x)
structure PoOk (p : Po) : Prop where
  n0 : 1 ≤ p.es.length
  n1 : p.es.length ≤ 10
  e : ∀ e ∈ p.es, 0 ≤ e ∧ e ≤ 1000
  f : 1 ≤ p.fall ∧ p.fall ≤ 60
  o : 0 ≤ p.out ∧ p.out ≤ 4
  gd : p.g = 60 ∧ p.d = 60 ∧ p.ah = 1 ∨ p.g = 0 ∧ p.d = 0 ∧ p.ah = 0
def PmAt (x : Pm) (W : World) : Prop := Row intL 1 W W.heap.size x.a x.p.es
theorem PmAt.next {x : Pm} {W W' : World} (h : PmAt x W) (hb : newer W W') : PmAt x W' := (Row.below h hb).more hb.size
set_option maxHeartbeats 400000 in
theorem within2_any (n lo hi : Int) (w : World) :
    Calls Try.prog 66 #[.int .i64 n, .int .i64 lo, .int .i64 hi] w fun e w' => e = .returned (.bool (inB n lo hi)) ∧ w = w' := by
  by_cases h1 : lo ≤ n <;> by_cases h2 : n ≤ hi <;>
  (go_enter Try.func66, Try.ntmps66
   go_wp2
   go_ret
   exact ⟨by simp [inB, h1, h2], rfl⟩)
set_option maxHeartbeats 400000 in
theorem speed_any (n : Int) (w : World) : Calls Try.prog 125 #[vi n] w fun e w' => e = .returned (.bool (inB n 0 1000)) ∧ w = w' := by
  go_enter Try.func125, Try.ntmps125
  go_wp2_with (go_at_call 66; refine (within2_any _ _ _ _).mono ?_; rintro e w' ⟨rfl, rfl⟩)
  go_ret
  exact ⟨rfl, rfl⟩
set_option maxHeartbeats 400000 in
theorem chk_any (n : Int) (w : World) : Calls Try.prog 98 #[vi n] w fun e w' => e = .returned (.bool (inB n (-1000) 2000)) ∧ w = w' := by
  go_enter Try.func98, Try.ntmps98
  go_wp2_with (go_at_call 66; refine (within2_any _ _ _ _).mono ?_; rintro e w' ⟨rfl, rfl⟩)
  go_ret
  exact ⟨rfl, rfl⟩
set_option maxHeartbeats 400000 in
theorem hour_any (n : Int) (w : World) : Calls Try.prog 123 #[vi n] w fun e w' => e = .returned (.bool (inB n 0 60)) ∧ w = w' := by
  go_enter Try.func123, Try.ntmps123
  go_wp2_with (go_at_call 66; refine (within2_any _ _ _ _).mono ?_; rintro e w' ⟨rfl, rfl⟩)
  go_ret
  exact ⟨rfl, rfl⟩
set_option maxHeartbeats 400000 in
theorem step_any (n : Int) (w : World) : Calls Try.prog 124 #[vi n] w fun e w' => e = .returned (.bool (inB n 0 200)) ∧ w = w' := by
  go_enter Try.func124, Try.ntmps124
  go_wp2_with (go_at_call 66; refine (within2_any _ _ _ _).mono ?_; rintro e w' ⟨rfl, rfl⟩)
  go_ret
  exact ⟨rfl, rfl⟩

/-! ## As -/
set_option maxHeartbeats 400000 in
theorem notAs_any (x : Int) (rb : Nat) (b : Bool) (w : World) (hr : w.cell? ⟨rb, 0, none⟩ = some (.func (.func 125) #[] #[]))
    (hf : ∀ W, Below w.heap.size w W → Calls Try.prog 125 #[vi x] W fun e w' => e = .returned (.bool b) ∧ Below W.heap.size W w') :
    Calls Try.prog 126 #[vi x, .pointer (some ⟨rb, 0, none⟩)] w fun e w' => e = .returned (.bool (!b)) ∧ Below w.heap.size w w' := by
  have HF := Lib.hid hf
  have hlt := World.block_lt_of_cell? w _ hr
  dsimp only at hlt
  clear hf
  go_enter Try.func126, Try.ntmps126
  go_wp2_with (go_at_call 125; refine (HF.out _ (Below.refl _ _)).mono ?_; rintro e w' ⟨rfl, hb⟩)
  go_ret
  exact ⟨rfl, hb⟩
set_option maxHeartbeats 400000 in
theorem idxAs_any (l : List Int) (p : Int → Bool) (cp rb : Nat) (A : Option Addr) (w : World) (hn : l.length ≤ 1000) (hrow : Row intL 1 w w.heap.size A l)
    (hf : ∀ c ∈ l, ∀ W, Below w.heap.size w W → Calls Try.prog 126 #[vi c, .pointer (some ⟨rb, 0, none⟩)] W fun e w' => e = .returned (.bool (p c)) ∧ Below W.heap.size W w') :
    Calls Try.prog 137 #[.slice A l.length cp, .func (.func 126) #[] #[.pointer (some ⟨rb, 0, none⟩)]] w fun e w' => e = .returned (.int .i64 (idx p l)) ∧ Below w.heap.size w w' := by
  have HF := Lib.hid hf
  clear hf
  obtain ⟨n, hnl⟩ : ∃ n, n = l.length := ⟨_, rfl⟩
  rw [← hnl] at hn ⊢
  have HN := Lib.hid hnl
  clear hnl
  go_enter Try.func137, Try.ntmps137
  go_wp2
  go_loopw [4, 5, 8] (fun _ _ i wr => ∃ k : Nat, k ≤ n ∧ i = .int .i64 k ∧ Below w.heap.size w wr ∧ early p l k) (fun _ _ i _ => n - (intOf i).toNat)
  case atStart => exact ⟨0, Nat.zero_le _, rfl, Below.refl _ _, early_zero _ _⟩
  case round =>
    obtain ⟨k, hk, rfl, hbw, he⟩ := hrel
    have HE := Lib.hid he
    clear he
    by_cases hlt : k < n
    · obtain ⟨c, hc⟩ := get_of_lt (l := l) (k := k) (by have := HN.out; omega)
      obtain ⟨b, off, rfl, hb, h0⟩ := row1 (hrow.below hbw) hc
      have HC := Lib.hid hc
      clear hc
      cases hp : p c
      · go_wp2_with (go_at_call 126; refine (HF.out c (List.mem_of_getElem? HC.out) _ hbw).mono ?_; rintro e w' ⟨rfl, hb2⟩)
        go_roundw
        case rel => exact ⟨k + 1, by omega, by go_num, below_next hbw hb2, early_succ HE.out HC.out hp⟩
        case measure => simp [intOf]; omega
      · go_wp2_with (go_at_call 126; refine (HF.out c (List.mem_of_getElem? HC.out) _ hbw).mono ?_; rintro e w' ⟨rfl, hb2⟩)
        go_ret
        exact ⟨ret_int (idx_here p l k c HC.out hp HE.out).symm, below_next hbw hb2⟩
    · go_wp2_with fail
      go_ret
      have hkn : k = l.length := by have := HN.out; omega
      exact ⟨ret_int (idx_none p l (hkn ▸ HE.out)).symm, hbw⟩
set_option maxHeartbeats 400000 in
theorem containsAs_any (l : List Int) (p : Int → Bool) (cp rb : Nat) (A : Option Addr) (w : World) (hn : l.length ≤ 1000) (hrow : Row intL 1 w w.heap.size A l)
    (hf : ∀ c ∈ l, ∀ W, Below w.heap.size w W → Calls Try.prog 126 #[vi c, .pointer (some ⟨rb, 0, none⟩)] W fun e w' => e = .returned (.bool (p c)) ∧ Below W.heap.size W w') :
    Calls Try.prog 119 #[.slice A l.length cp, .func (.func 126) #[] #[.pointer (some ⟨rb, 0, none⟩)]] w fun e w' => e = .returned (.bool (decide (0 ≤ idx p l))) ∧ Below w.heap.size w w' := by
  have HF := Lib.hid hf
  clear hf
  go_enter Try.func119, Try.ntmps119
  go_wp2_with (go_at_call 137; refine (idxAs_any l p cp rb A _ hn hrow HF.out).mono ?_; rintro e w' ⟨rfl, hb2⟩)
  go_ret
  exact ⟨rfl, hb2⟩
set_option maxHeartbeats 400000 in
theorem allAs_any (l : List Int) (p : Int → Bool) (cp : Nat) (A : Option Addr) (w : World) (hn : l.length ≤ 1000) (hrow : Row intL 1 w w.heap.size A l)
    (hf : ∀ c ∈ l, ∀ W, Below w.heap.size w W → Calls Try.prog 125 #[vi c] W fun e w' => e = .returned (.bool (p c)) ∧ Below W.heap.size W w') :
    Calls Try.prog 97 #[.slice A l.length cp, .func (.func 125) #[] #[]] w fun e w' => e = .returned (.bool (l.all p)) ∧ Below w.heap.size w w' := by
  have hX := containsAs_any l (fun c => !p c) cp w.heap.size A (w.alloc (.cells #[.func (.func 125) #[] #[]] 156)) hn (hrow_ok hrow _) (fun c hc W hW => notAs_any c w.heap.size (p c) W (keep_cell (Whole.at (Whole.made w 156 #[.func (.func 125) #[] #[]]) 0 rfl) hW) fun W' hW' => hf c hc W' (below_next (below_next ((Below.refl _ _).alloc (Nat.le_refl _) _) hW) hW'))
  have HX := Lib.hid hX
  clear hX hf
  go_enter Try.func97, Try.ntmps97
  go_wp2_with (go_at_call 119; refine (HX.out).mono ?_; rintro e w' ⟨rfl, hb2⟩)
  go_ret
  exact ⟨ret_bool (idx_all p l), below_next ((Below.refl _ _).alloc (Nat.le_refl _) _) hb2⟩

/-! ## Ac -/
set_option maxHeartbeats 400000 in
theorem notAc_any (x : Int) (rb : Nat) (b : Bool) (w : World) (hr : w.cell? ⟨rb, 0, none⟩ = some (.func (.func 98) #[] #[]))
    (hf : ∀ W, Below w.heap.size w W → Calls Try.prog 98 #[vi x] W fun e w' => e = .returned (.bool b) ∧ Below W.heap.size W w') :
    Calls Try.prog 126 #[vi x, .pointer (some ⟨rb, 0, none⟩)] w fun e w' => e = .returned (.bool (!b)) ∧ Below w.heap.size w w' := by
  have HF := Lib.hid hf
  have hlt := World.block_lt_of_cell? w _ hr
  dsimp only at hlt
  clear hf
  go_enter Try.func126, Try.ntmps126
  go_wp2_with (go_at_call 98; refine (HF.out _ (Below.refl _ _)).mono ?_; rintro e w' ⟨rfl, hb⟩)
  go_ret
  exact ⟨rfl, hb⟩
set_option maxHeartbeats 400000 in
theorem idxAc_any (l : List Int) (p : Int → Bool) (cp rb : Nat) (A : Option Addr) (w : World) (hn : l.length ≤ 1000) (hrow : Row intL 1 w w.heap.size A l)
    (hf : ∀ c ∈ l, ∀ W, Below w.heap.size w W → Calls Try.prog 126 #[vi c, .pointer (some ⟨rb, 0, none⟩)] W fun e w' => e = .returned (.bool (p c)) ∧ Below W.heap.size W w') :
    Calls Try.prog 137 #[.slice A l.length cp, .func (.func 126) #[] #[.pointer (some ⟨rb, 0, none⟩)]] w fun e w' => e = .returned (.int .i64 (idx p l)) ∧ Below w.heap.size w w' := by
  have HF := Lib.hid hf
  clear hf
  obtain ⟨n, hnl⟩ : ∃ n, n = l.length := ⟨_, rfl⟩
  rw [← hnl] at hn ⊢
  have HN := Lib.hid hnl
  clear hnl
  go_enter Try.func137, Try.ntmps137
  go_wp2
  go_loopw [4, 5, 8] (fun _ _ i wr => ∃ k : Nat, k ≤ n ∧ i = .int .i64 k ∧ Below w.heap.size w wr ∧ early p l k) (fun _ _ i _ => n - (intOf i).toNat)
  case atStart => exact ⟨0, Nat.zero_le _, rfl, Below.refl _ _, early_zero _ _⟩
  case round =>
    obtain ⟨k, hk, rfl, hbw, he⟩ := hrel
    have HE := Lib.hid he
    clear he
    by_cases hlt : k < n
    · obtain ⟨c, hc⟩ := get_of_lt (l := l) (k := k) (by have := HN.out; omega)
      obtain ⟨b, off, rfl, hb, h0⟩ := row1 (hrow.below hbw) hc
      have HC := Lib.hid hc
      clear hc
      cases hp : p c
      · go_wp2_with (go_at_call 126; refine (HF.out c (List.mem_of_getElem? HC.out) _ hbw).mono ?_; rintro e w' ⟨rfl, hb2⟩)
        go_roundw
        case rel => exact ⟨k + 1, by omega, by go_num, below_next hbw hb2, early_succ HE.out HC.out hp⟩
        case measure => simp [intOf]; omega
      · go_wp2_with (go_at_call 126; refine (HF.out c (List.mem_of_getElem? HC.out) _ hbw).mono ?_; rintro e w' ⟨rfl, hb2⟩)
        go_ret
        exact ⟨ret_int (idx_here p l k c HC.out hp HE.out).symm, below_next hbw hb2⟩
    · go_wp2_with fail
      go_ret
      have hkn : k = l.length := by have := HN.out; omega
      exact ⟨ret_int (idx_none p l (hkn ▸ HE.out)).symm, hbw⟩
set_option maxHeartbeats 400000 in
theorem containsAc_any (l : List Int) (p : Int → Bool) (cp rb : Nat) (A : Option Addr) (w : World) (hn : l.length ≤ 1000) (hrow : Row intL 1 w w.heap.size A l)
    (hf : ∀ c ∈ l, ∀ W, Below w.heap.size w W → Calls Try.prog 126 #[vi c, .pointer (some ⟨rb, 0, none⟩)] W fun e w' => e = .returned (.bool (p c)) ∧ Below W.heap.size W w') :
    Calls Try.prog 119 #[.slice A l.length cp, .func (.func 126) #[] #[.pointer (some ⟨rb, 0, none⟩)]] w fun e w' => e = .returned (.bool (decide (0 ≤ idx p l))) ∧ Below w.heap.size w w' := by
  have HF := Lib.hid hf
  clear hf
  go_enter Try.func119, Try.ntmps119
  go_wp2_with (go_at_call 137; refine (idxAc_any l p cp rb A _ hn hrow HF.out).mono ?_; rintro e w' ⟨rfl, hb2⟩)
  go_ret
  exact ⟨rfl, hb2⟩
set_option maxHeartbeats 400000 in
theorem allAc_any (l : List Int) (p : Int → Bool) (cp : Nat) (A : Option Addr) (w : World) (hn : l.length ≤ 1000) (hrow : Row intL 1 w w.heap.size A l)
    (hf : ∀ c ∈ l, ∀ W, Below w.heap.size w W → Calls Try.prog 98 #[vi c] W fun e w' => e = .returned (.bool (p c)) ∧ Below W.heap.size W w') :
    Calls Try.prog 97 #[.slice A l.length cp, .func (.func 98) #[] #[]] w fun e w' => e = .returned (.bool (l.all p)) ∧ Below w.heap.size w w' := by
  have hX := containsAc_any l (fun c => !p c) cp w.heap.size A (w.alloc (.cells #[.func (.func 98) #[] #[]] 156)) hn (hrow_ok hrow _) (fun c hc W hW => notAc_any c w.heap.size (p c) W (keep_cell (Whole.at (Whole.made w 156 #[.func (.func 98) #[] #[]]) 0 rfl) hW) fun W' hW' => hf c hc W' (below_next (below_next ((Below.refl _ _).alloc (Nat.le_refl _) _) hW) hW'))
  have HX := Lib.hid hX
  clear hX hf
  go_enter Try.func97, Try.ntmps97
  go_wp2_with (go_at_call 119; refine (HX.out).mono ?_; rintro e w' ⟨rfl, hb2⟩)
  go_ret
  exact ⟨ret_bool (idx_all p l), below_next ((Below.refl _ _).alloc (Nat.le_refl _) _) hb2⟩
set_option maxHeartbeats 1000000 in
theorem amin2_any (a b : Int) (nb c : Nat) (w : World) (hw : Whole w nb 3 #[vi a, vi b]) : Calls Try.prog 130 #[.slice (some ⟨nb, 0, none⟩) 2 c] w fun e w' => e = .returned (vi (mnI a b)) ∧ w = w' := by
  have c0 := hw.at 0 (v := vi a) rfl
  have c1 := hw.at 1 (v := vi b) rfl
  clear hw
  by_cases h : b < a
  · have e : mnI a b = b := by unfold mnI; rw [if_pos h]
    have h2 : ¬ a < b := by omega
    rw [e]
    clear e
    go_enter Try.func130, Try.ntmps130
    go_wp2_with fail
    go_loop [3, 4] (fun s3 s4 => (s4 = vi 1 ∧ s3 = vi a) ∨ (s4 = vi 2 ∧ s3 = vi b)) (fun _ s4 => 2 - (intOf s4).toNat)
    case atStart => exact .inl ⟨rfl, rfl⟩
    case round =>
      rcases hrel with ⟨rfl, rfl⟩ | ⟨rfl, rfl⟩
      · go_wp2_with fail
        all_goals first
          | (exfalso; omega)
          | (go_round
             case rel => exact .inr ⟨rfl, rfl⟩
             case measure => simp [intOf])
      · go_wp2_with fail
        go_ret
        exact ⟨rfl, rfl⟩
  · have e : mnI a b = a := by unfold mnI; rw [if_neg h]
    rw [e]
    clear e
    go_enter Try.func130, Try.ntmps130
    go_wp2_with fail
    go_loop [3, 4] (fun s3 s4 => (s4 = vi 1 ∧ s3 = vi a) ∨ (s4 = vi 2 ∧ s3 = vi a)) (fun _ s4 => 2 - (intOf s4).toNat)
    case atStart => exact .inl ⟨rfl, rfl⟩
    case round =>
      rcases hrel with ⟨rfl, rfl⟩ | ⟨rfl, rfl⟩
      · go_wp2_with fail
        all_goals first
          | (exfalso; omega)
          | (go_round
             case rel => exact .inr ⟨rfl, rfl⟩
             case measure => simp [intOf])
      · go_wp2_with fail
        go_ret
        exact ⟨rfl, rfl⟩
set_option maxHeartbeats 1000000 in
theorem amax2_any (a b : Int) (nb c : Nat) (w : World) (hw : Whole w nb 3 #[vi a, vi b]) : Calls Try.prog 129 #[.slice (some ⟨nb, 0, none⟩) 2 c] w fun e w' => e = .returned (vi (mxI a b)) ∧ w = w' := by
  have c0 := hw.at 0 (v := vi a) rfl
  have c1 := hw.at 1 (v := vi b) rfl
  clear hw
  by_cases h : a < b
  · have e : mxI a b = b := by unfold mxI; rw [if_pos h]
    have h2 : ¬ b < a := by omega
    rw [e]
    clear e
    go_enter Try.func129, Try.ntmps129
    go_wp2_with fail
    go_loop [3, 4] (fun s3 s4 => (s4 = vi 1 ∧ s3 = vi a) ∨ (s4 = vi 2 ∧ s3 = vi b)) (fun _ s4 => 2 - (intOf s4).toNat)
    case atStart => exact .inl ⟨rfl, rfl⟩
    case round =>
      rcases hrel with ⟨rfl, rfl⟩ | ⟨rfl, rfl⟩
      · go_wp2_with fail
        all_goals first
          | (exfalso; omega)
          | (go_round
             case rel => exact .inr ⟨rfl, rfl⟩
             case measure => simp [intOf])
      · go_wp2_with fail
        go_ret
        exact ⟨rfl, rfl⟩
  · have e : mxI a b = a := by unfold mxI; rw [if_neg h]
    rw [e]
    clear e
    go_enter Try.func129, Try.ntmps129
    go_wp2_with fail
    go_loop [3, 4] (fun s3 s4 => (s4 = vi 1 ∧ s3 = vi a) ∨ (s4 = vi 2 ∧ s3 = vi a)) (fun _ s4 => 2 - (intOf s4).toNat)
    case atStart => exact .inl ⟨rfl, rfl⟩
    case round =>
      rcases hrel with ⟨rfl, rfl⟩ | ⟨rfl, rfl⟩
      · go_wp2_with fail
        all_goals first
          | (exfalso; omega)
          | (go_round
             case rel => exact .inr ⟨rfl, rfl⟩
             case measure => simp [intOf])
      · go_wp2_with fail
        go_ret
        exact ⟨rfl, rfl⟩
set_option maxHeartbeats 1000000 in
theorem aleast_any (a b : Int) (nb c : Nat) (w : World) (hw : Whole w nb 3 #[vi a, vi b]) : Calls Try.prog 103 #[.slice (some ⟨nb, 0, none⟩) 2 c] w fun e w' => e = .returned (vi (mnI a b)) ∧ w = w' := by
  have HM := Lib.hid (amin2_any a b nb c w hw)
  obtain ⟨m, hm⟩ : ∃ m, m = mnI a b := ⟨_, rfl⟩
  rw [← hm] at HM ⊢
  clear hm hw
  go_enter Try.func103, Try.ntmps103
  go_wp2_with fail
  refine (HM.out).mono ?_
  rintro e w' ⟨rfl, rfl⟩
  go_wp2_with fail
  go_ret
  exact ⟨rfl, rfl⟩
set_option maxHeartbeats 1000000 in
theorem agreat_any (a b : Int) (nb c : Nat) (w : World) (hw : Whole w nb 3 #[vi a, vi b]) : Calls Try.prog 102 #[.slice (some ⟨nb, 0, none⟩) 2 c] w fun e w' => e = .returned (vi (mxI a b)) ∧ w = w' := by
  have HM := Lib.hid (amax2_any a b nb c w hw)
  obtain ⟨m, hm⟩ : ∃ m, m = mxI a b := ⟨_, rfl⟩
  rw [← hm] at HM ⊢
  clear hm hw
  go_enter Try.func102, Try.ntmps102
  go_wp2_with fail
  refine (HM.out).mono ?_
  rintro e w' ⟨rfl, rfl⟩
  go_wp2_with fail
  go_ret
  exact ⟨rfl, rfl⟩
set_option maxHeartbeats 400000 in
theorem nothing_any (w : World) : Calls Try.prog 104 #[] w fun e w' => e = .returned (prV (1, 0)) ∧ newer w w' := by
  have HZ := Lib.hid (And.intro (newer_allocH w (.cells #[vi 1, vi 0] 136)) (Whole.made w 136 #[vi 1, vi 0]))

  go_enter Try.func104, Try.ntmps104
  go_wp2_with fail
  have z0 := HZ.out.2.at 0 (v := vi 1) rfl
  have z1 := HZ.out.2.at 1 (v := vi 0) rfl
  exact bodyPost_ret (v := .agg #[vi 1, vi 0]) (by simp [results, Try.results104, go_sem, z0, z1]) rfl ⟨rfl, HZ.out.1⟩

end Go.Proofs.Ytpmafnifgegfbaa

namespace Go.Proofs.Ytpmafnifgegfbaa
open Go.RowKit Go.Shelf Go.Deep

def vTwoN (B : Nat) (x y : Int) (v : Value) (W : World) : Prop := ∃ q, v = .slice (some ⟨q, 0, none⟩) 2 2 ∧ B ≤ q ∧ Whole W q 3 #[vi x, vi y]
theorem vTwoN_st {B : Nat} {x y : Int} : ∀ v W W', vTwoN B x y v W → newer W W' → vTwoN B x y v W' := fun _ _ _ ⟨q, h1, h2, h4⟩ hb => ⟨q, h1, h2, h4.below hb h4.lt⟩
/-- The speeds with which the first gauges agree, but one. -/
def agF (es l : List Int) (f : Int) : Nat → Int × Int
  | 0 => (0, 1000)
  | k + 1 => if (k : Int) = f then agF es l f k else (mxI (agF es l f k).1 (l[k]?.getD 0 - es[k]?.getD 0), mnI (agF es l f k).2 (l[k]?.getD 0 + es[k]?.getD 0))
def agN (es l : List Int) (f : Int) : Int × Int := if (agF es l f l.length).2 < (agF es l f l.length).1 then (1, 0) else agF es l f l.length
theorem get_bd {l : List Int} {a b : Int} (h : ∀ n ∈ l, a ≤ n ∧ n ≤ b) (h0 : a ≤ 0 ∧ 0 ≤ b) (k : Nat) : a ≤ l[k]?.getD 0 ∧ l[k]?.getD 0 ≤ b := by
  cases e : l[k]? with
  | none => exact h0
  | some n => exact h n (List.mem_of_getElem? e)
theorem agF_bd {es l : List Int} (he : ∀ e ∈ es, 0 ≤ e ∧ e ≤ 1000) (hl : ∀ n ∈ l, -1000 ≤ n ∧ n ≤ 2000) (f : Int) : ∀ k, 0 ≤ (agF es l f k).1 ∧ (agF es l f k).1 ≤ 2000 ∧ -1000 ≤ (agF es l f k).2 ∧ (agF es l f k).2 ≤ 1000
  | 0 => by simp [agF]
  | k + 1 => by
    have h := agF_bd he hl f k
    have h1 := get_bd he (by omega) k
    have h2 := get_bd hl (by omega) k
    unfold agF
    split
    · exact h
    · unfold mxI mnI
      simp only []
      split <;> split <;> omega
/-- A speed from which no gauge but the one is farther off than it may is among them. -/
theorem agF_law {es l : List Int} {f v : Int} (h0 : 0 ≤ v ∧ v ≤ 1000) : ∀ (n : Nat), (∀ k : Nat, k < n → (k : Int) ≠ f → l[k]?.getD 0 - es[k]?.getD 0 ≤ v ∧ v ≤ l[k]?.getD 0 + es[k]?.getD 0) → (agF es l f n).1 ≤ v ∧ v ≤ (agF es l f n).2
  | 0, _ => h0
  | n + 1, h => by
    have h1 := agF_law h0 n fun k hk => h k (by omega)
    unfold agF
    split
    · exact h1
    · rename_i hf
      have h2 := h n (by omega) hf
      unfold mxI mnI
      simp only []
      split <;> split <;> omega
theorem agN_law {es l : List Int} {f v : Int} (h0 : 0 ≤ v ∧ v ≤ 1000) (h : ∀ k : Nat, k < l.length → (k : Int) ≠ f → l[k]?.getD 0 - es[k]?.getD 0 ≤ v ∧ v ≤ l[k]?.getD 0 + es[k]?.getD 0) : (agN es l f).1 ≤ v ∧ v ≤ (agN es l f).2 := by
  have h1 := agF_law (f := f) h0 l.length h
  unfold agN
  rw [if_neg (by omega)]
  exact h1
theorem agN_bd {es l : List Int} (he : ∀ e ∈ es, 0 ≤ e ∧ e ≤ 1000) (hl : ∀ n ∈ l, -1000 ≤ n ∧ n ≤ 2000) (f : Int) : agN es l f = (1, 0) ∨ (0 ≤ (agN es l f).1 ∧ (agN es l f).1 ≤ (agN es l f).2 ∧ (agN es l f).2 ≤ 1000) := by
  have h := agF_bd he hl f l.length
  unfold agN
  split
  · exact .inl rfl
  · right; omega
/-- The hours that are left at a speed; the level. -/
def leftA (p : Po) (v : Int) : Int := if p.fall ≤ v then 0 else (p.fall - v + 59) / 60
def levelA (p : Po) (v : Int) : Nat := if leftA p v ≤ p.out then 3 else 2
theorem leftA_few {p : Po} (h : PoOk p) {v : Int} (h0 : 0 ≤ v) : 0 ≤ leftA p v ∧ leftA p v ≤ 1 := by
  have := h.f
  unfold leftA
  split <;> omega
set_option maxHeartbeats 1000000 in
theorem leftA_any (x : Pm) (v : Int) (w : World) (hp : PoOk x.p) (hv : 0 ≤ v ∧ v ≤ 1000) (hlv : x.p.g = 60 ∨ x.p.fall ≤ v) : Calls Try.prog 141 #[pmV x, vi v] w fun e w' => e = .returned (vi (leftA x.p v)) ∧ newer w w' := by
  have hnw := newer_allocH w (.cells (pmC x) 32)
  have hbx := Whole.made w 32 (pmC x)
  have hf := hp.f
  have x3 := hbx.at 3 (v := vi x.p.fall) rfl
  have x1 := hbx.at 1 (v := vi x.p.g) rfl
  clear hbx
  by_cases h : x.p.fall ≤ v
  · have e : leftA x.p v = 0 := by unfold leftA; rw [if_pos h]
    rw [e]
    clear e
    go_enter Try.func141, Try.ntmps141
    go_wp2_with fail
    go_ret
    exact ⟨rfl, hnw⟩
  · have e : leftA x.p v = (x.p.fall - v + 59) / 60 := by unfold leftA; rw [if_neg h]
    have e2 : Int.tdiv (x.p.fall - v + 59) 60 = (x.p.fall - v + 59) / 60 := Int.tdiv_eq_ediv_of_nonneg (by omega)
    have HE := Lib.hid e2
    rw [e]
    clear e
    have hg60 : x.p.g = 60 := by omega
    rw [hg60] at x1
    clear hlv hg60
    go_enter Try.func141, Try.ntmps141
    go_wp2_with fail
    go_ret
    exact ⟨ret_int (by rw [show x.p.fall - v + 60 - 1 = x.p.fall - v + 59 by omega]), hnw⟩
set_option maxHeartbeats 1000000 in
theorem rank142_any (x : Pm) (w : World) (hp : PoOk x.p) : Calls Try.prog 142 #[pmV x] w fun e w' => e = .returned (vi (x.p.out)) ∧ newer w w' := by
  have hnw := newer_allocH w (.cells (pmC x) 32)
  have hbx := Whole.made w 32 (pmC x)
  have ho := hp.o
  have x4 := hbx.at 4 (v := vi x.p.out) rfl
  have x5 := hbx.at 5 (v := vi x.p.ah) rfl
  have hgd := hp.gd
  clear hbx
  go_enter Try.func142, Try.ntmps142
  go_wp2_with fail
  go_ret
  exact ⟨rfl, hnw⟩
set_option maxHeartbeats 1000000 in
theorem rank143_any (x : Pm) (w : World) (hp : PoOk x.p) : Calls Try.prog 143 #[pmV x] w fun e w' => e = .returned (vi (x.p.out + x.p.ah)) ∧ newer w w' := by
  have hnw := newer_allocH w (.cells (pmC x) 32)
  have hbx := Whole.made w 32 (pmC x)
  have ho := hp.o
  have x4 := hbx.at 4 (v := vi x.p.out) rfl
  have x5 := hbx.at 5 (v := vi x.p.ah) rfl
  have hgd := hp.gd
  clear hbx
  go_enter Try.func143, Try.ntmps143
  go_wp2_with fail
  go_ret
  exact ⟨rfl, hnw⟩
set_option maxRecDepth 100000 in
set_option maxHeartbeats 2000000 in
theorem agreed_any (x : Pm) (l : List Int) (f : Int) (A : Option Addr) (c : Nat) (w : World) (hok : PmAt x w) (hp : PoOk x.p) (hl : l.length = x.p.es.length) (hlb : ∀ n ∈ l, -1000 ≤ n ∧ n ≤ 2000) (hr : Row intL 1 w w.heap.size A l) :
    Calls Try.prog 67 #[pmV x, .slice A l.length c, vi f] w fun e w' => e = .returned (prV (agN x.p.es l f)) ∧ newer w w' := by
  have hnw := newer_trans (newer_allocH w (.cells (pmC x) 32)) (newer_allocH (w.alloc (.cells (pmC x) 32)) (.cells #[vi 0, vi 0] 136))
  have hb0 := (Whole.made w 32 (pmC x)).alloc (.cells #[vi 0, vi 0] 136)
  have hb1 := Whole.made (w.alloc (.cells (pmC x) 32)) 136 #[vi 0, vi 0]
  simp only [World.size_alloc] at hb1
  have HW := Lib.hid (And.intro hnw (And.intro hb0 hb1))
  have HX := Lib.hid (And.intro hok (And.intro hr (And.intro hp hlb)))
  have HL := Lib.hid hl
  have HBD := Lib.hid (agF_bd hp.e hlb f)
  obtain ⟨n, hn⟩ : ∃ n, n = l.length := ⟨_, rfl⟩
  have HN := Lib.hid hn
  have hn10 : n ≤ 10 := by rw [hn, hl]; exact hp.n1
  rw [← hn]
  clear hnw hb0 hb1 hok hr hp hlb hl hn
  go_enter Try.func67, Try.ntmps67
  go_wp2_with fail
  go_loopw [7, 8, 9, 10, 13] (fun s7 s8 _ _ i wr => ∃ k : Nat, k ≤ n ∧ i = .int .i64 k ∧ s7 = vi (agF x.p.es l f k).1 ∧ s8 = vi (agF x.p.es l f k).2 ∧ newer w wr ∧ Whole wr w.heap.size 32 (pmC x) ∧ Whole wr (w.heap.size + 1) 136 #[vi 0, vi 0]) (fun _ _ _ _ i _ => n - (intOf i).toNat)
  case atStart => exact ⟨0, Nat.zero_le _, rfl, rfl, rfl, HW.out⟩
  case round =>
    obtain ⟨k, hk, rfl, rfl, rfl, hj⟩ := hrel
    have HJ := Lib.hid hj
    clear hj
    by_cases hlt : k < n
    · obtain ⟨c, hc⟩ := get_of_lt (l := l) (k := k) (by have := HN.out; omega)
      obtain ⟨d, hd⟩ := get_of_lt (l := x.p.es) (k := k) (by have := HN.out; have := HL.out; omega)
      have hcb := HX.out.2.2.2 c (List.mem_of_getElem? hc)
      have hdb := HX.out.2.2.1.e d (List.mem_of_getElem? hd)
      have hlo := HBD.out k
      have HST : Hid (agF x.p.es l f (k + 1) = if (k : Int) = f then agF x.p.es l f k else (mxI (agF x.p.es l f k).1 (c - d), mnI (agF x.p.es l f k).2 (c + d))) := Lib.hid (by rw [agF, hc, hd]; rfl)
      obtain ⟨b, off, rfl, hb, h0⟩ := row1 (HX.out.2.1.below HJ.out.1) hc
      obtain ⟨eb, eo, ea, heb, d0⟩ := row1 (Row.below HX.out.1 HJ.out.1) hd
      have HC := Lib.hid (And.intro hc hd)
      obtain ⟨lo, hlo1⟩ : ∃ q, q = (agF x.p.es l f k).1 := ⟨_, rfl⟩
      obtain ⟨hi, hhi1⟩ : ∃ q, q = (agF x.p.es l f k).2 := ⟨_, rfl⟩
      have HLH := Lib.hid (And.intro hlo1 hhi1)
      rw [← hlo1, ← hhi1] at hlo HST ⊢
      have x0 := HJ.out.2.1.at 0 (v := .slice x.a x.p.es.length x.c) rfl
      rw [ea] at x0
      have hke : (k : Int) < x.p.es.length := by have := HL.out; have := HN.out; omega
      clear hc hd hlo1 hhi1 ea
      by_cases hf : (k : Int) = f
      · subst hf
        go_wp2_with fail
        go_roundw
        case rel => exact ⟨k + 1, by omega, by go_num, by rw [HST.out, if_pos rfl, HLH.out.1], by rw [HST.out, if_pos rfl, HLH.out.2], HJ.out⟩
        case measure => simp [intOf]; omega
      · have hfz : ((k : Int) == f) = false := by rw [beq_eq_false_iff_ne]; exact hf
        have hw1 : IntKind.i64.wrap (c - d) = c - d := IntWalk.i64_in _ (by omega)
        have hw2 : IntKind.i64.wrap (c + d) = c + d := IntWalk.i64_in _ (by omega)
        go_wp2_with fail
        refine wp_words (by kernel_rfl) (region_told 20 (by kernel_rfl) (by kernel_rfl) (fun W => Below wr.heap.size wr W) newer (pickD [vIs (vi lo), vIs (vi c), vIs (.pointer (some ⟨w.heap.size, 0, none⟩)), vIs (.slice (some ⟨eb, eo, none⟩) x.p.es.length x.c), vIs (.int .i64 k), vIs (.pointer (some ⟨eb, eo + k, none⟩)), vIs (vi d), vIs (vi ((c - d))), vTwoN wr.heap.size lo (c - d), vIs (vi (mxI lo (c - d))), vIs (vi hi), vIs (vi c), vIs (.pointer (some ⟨w.heap.size, 0, none⟩)), vIs (.slice (some ⟨eb, eo, none⟩) x.p.es.length x.c), vIs (.int .i64 k), vIs (.pointer (some ⟨eb, eo + k, none⟩)), vIs (vi d), vIs (vi ((c + d))), vTwoN wr.heap.size hi (c + d), vIs (vi (mnI hi (c + d)))]) (fun h k => newer_trans h k) (pickD_stable _ ⟨vIs_st, vIs_st, vIs_st, vIs_st, vIs_st, vIs_st, vIs_st, vIs_st, vTwoN_st, vIs_st, vIs_st, vIs_st, vIs_st, vIs_st, vIs_st, vIs_st, vIs_st, vIs_st, vTwoN_st, vIs_st, trivial⟩) (Below.refl _ wr).drew (Below.refl _ _) ?_ ?_)
        · refine ⟨?_, ?_, ?_, ?_, ?_, ?_, ?_, ?_, ?_, ?_, ?_, ?_, ?_, ?_, ?_, ?_, ?_, ?_, ?_, ?_, trivial⟩
          · exact fun a W hG _ hO _ => kM 7 rfl (hO.slot 7 (by kernel_rfl)) rfl hG
          · exact fun a W hG _ hO _ => kM 10 rfl (hO.slot 10 (by kernel_rfl)) rfl hG
          · intro a W hG hR hO hp
            have h3 := hO.slot 3 (by kernel_rfl)
            refine kY (v := .pointer (some ⟨w.heap.size, 0, none⟩)) hG rfl ?_
            simp [slotOf] at h3
            simp [execOp, go_sem, h3]
          · intro a W hG hR hO hp
            have h23 : slotOf a 23 = .pointer (some ⟨w.heap.size, 0, none⟩) := hp.1
            have c0 := keep_cell x0 hG
            refine kY (v := .slice (some ⟨eb, eo, none⟩) x.p.es.length x.c) hG rfl ?_
            simp [slotOf] at h23
            simp [execOp, go_sem, h23, c0]
          · exact fun a W hG _ hO _ => kM 9 rfl (hO.slot 9 (by kernel_rfl)) rfl hG
          · intro a W hG hR hO hp
            have h24 : slotOf a 24 = .slice (some ⟨eb, eo, none⟩) x.p.es.length x.c := hp.1
            have h25 : slotOf a 25 = .int .i64 k := hp.2.1
            refine kY (v := .pointer (some ⟨eb, eo + k, none⟩)) hG rfl ?_
            simp [slotOf] at h24 h25
            simp [execOp, go_sem, h24, h25, hke]
          · intro a W hG hR hO hp
            have h26 : slotOf a 26 = .pointer (some ⟨eb, eo + k, none⟩) := hp.1
            have c0 := keep_cell d0 hG
            refine kY (v := vi d) hG rfl ?_
            simp [slotOf] at h26
            simp [execOp, go_sem, h26, c0]
          · intro a W hG hR hO hp
            have h22 : slotOf a 22 = vi c := hp.1
            have h27 : slotOf a 27 = vi d := hp.2.1
            refine kY (v := vi ((c - d))) hG rfl ?_
            simp [slotOf] at h22 h27
            simp [execOp, go_sem, h22, h27, hw1]
          · intro a W hG hR hO hp
            have h21 : slotOf a 21 = vi lo := hp.1
            have h28 : slotOf a 28 = vi ((c - d)) := hp.2.1
            refine wp_makes (v := .slice (some ⟨W.heap.size, 0, none⟩) 2 2) (W' := W.alloc (.cells #[vi lo, vi (c - d)] 3)) ?_ ⟨_, rfl, ⟨W.heap.size, rfl, hG.size, Whole.made _ _ _⟩, newer_allocH _ _, below_next hG (newer_allocH _ _)⟩
            simp [slotOf] at h21 h28
            simp [execOp, go_sem, h21, h28]
          · intro a W hG hR hO hp
            have h29 := hp.1
            obtain ⟨q, h29, hq1, hq3⟩ := h29
            refine wp_enters (f := 102) (args := #[.slice (some ⟨q, 0, none⟩) 2 2]) ?_ ((agreat_any lo (c - d) q 2 W hq3).mono ?_)
            · simp [slotOf] at h29
              simp [go_sem, h29]
            · rintro e w' ⟨rfl, rfl⟩
              exact ⟨_, rfl, _, rfl, rfl, Below.refl _ _, hG⟩
          · exact fun a W hG _ hO _ => kM 8 rfl (hO.slot 8 (by kernel_rfl)) rfl hG
          · exact fun a W hG _ hO _ => kM 10 rfl (hO.slot 10 (by kernel_rfl)) rfl hG
          · intro a W hG hR hO hp
            have h3 := hO.slot 3 (by kernel_rfl)
            refine kY (v := .pointer (some ⟨w.heap.size, 0, none⟩)) hG rfl ?_
            simp [slotOf] at h3
            simp [execOp, go_sem, h3]
          · intro a W hG hR hO hp
            have h33 : slotOf a 33 = .pointer (some ⟨w.heap.size, 0, none⟩) := hp.1
            have c0 := keep_cell x0 hG
            refine kY (v := .slice (some ⟨eb, eo, none⟩) x.p.es.length x.c) hG rfl ?_
            simp [slotOf] at h33
            simp [execOp, go_sem, h33, c0]
          · exact fun a W hG _ hO _ => kM 9 rfl (hO.slot 9 (by kernel_rfl)) rfl hG
          · intro a W hG hR hO hp
            have h34 : slotOf a 34 = .slice (some ⟨eb, eo, none⟩) x.p.es.length x.c := hp.1
            have h35 : slotOf a 35 = .int .i64 k := hp.2.1
            refine kY (v := .pointer (some ⟨eb, eo + k, none⟩)) hG rfl ?_
            simp [slotOf] at h34 h35
            simp [execOp, go_sem, h34, h35, hke]
          · intro a W hG hR hO hp
            have h36 : slotOf a 36 = .pointer (some ⟨eb, eo + k, none⟩) := hp.1
            have c0 := keep_cell d0 hG
            refine kY (v := vi d) hG rfl ?_
            simp [slotOf] at h36
            simp [execOp, go_sem, h36, c0]
          · intro a W hG hR hO hp
            have h32 : slotOf a 32 = vi c := hp.1
            have h37 : slotOf a 37 = vi d := hp.2.1
            refine kY (v := vi ((c + d))) hG rfl ?_
            simp [slotOf] at h32 h37
            simp [execOp, go_sem, h32, h37, hw2]
          · intro a W hG hR hO hp
            have h31 : slotOf a 31 = vi hi := hp.1
            have h38 : slotOf a 38 = vi ((c + d)) := hp.2.1
            refine wp_makes (v := .slice (some ⟨W.heap.size, 0, none⟩) 2 2) (W' := W.alloc (.cells #[vi hi, vi (c + d)] 3)) ?_ ⟨_, rfl, ⟨W.heap.size, rfl, hG.size, Whole.made _ _ _⟩, newer_allocH _ _, below_next hG (newer_allocH _ _)⟩
            simp [slotOf] at h31 h38
            simp [execOp, go_sem, h31, h38]
          · intro a W hG hR hO hp
            have h39 := hp.1
            obtain ⟨q, h39, hq1, hq3⟩ := h39
            refine wp_enters (f := 103) (args := #[.slice (some ⟨q, 0, none⟩) 2 2]) ?_ ((aleast_any hi (c + d) q 2 W hq3).mono ?_)
            · simp [slotOf] at h39
              simp [go_sem, h39]
            · rintro e w' ⟨rfl, rfl⟩
              exact ⟨_, rfl, _, rfl, rfl, Below.refl _ _, hG⟩
        · intro w9 hG hR
          rintro _ rfl _ rfl _ rfl _ rfl _ rfl _ rfl _ rfl _ rfl _ - _ rfl _ rfl _ rfl _ rfl _ rfl _ rfl _ rfl _ rfl _ rfl _ - _ rfl
          change wpList _ _ _ _ _ _
          simp only [Act.put, List.setIfInBounds_toArray, List.set_cons_zero, List.set_cons_succ, List.drop_succ_cons, List.drop_zero]
          go_wp2_with fail
          go_roundw
          case rel => exact ⟨k + 1, by omega, by go_num, by rw [HST.out, if_neg hf], by rw [HST.out, if_neg hf], newer_trans HJ.out.1 hG, HJ.out.2.1.below hG HJ.out.2.1.lt, HJ.out.2.2.below hG HJ.out.2.2.lt⟩
          case measure => simp [intOf]; omega
    · have hkn : k = l.length := by have := HN.out; omega
      have HE : Hid (agN x.p.es l f = if (agF x.p.es l f k).2 < (agF x.p.es l f k).1 then (1, 0) else agF x.p.es l f k) := Lib.hid (by rw [hkn]; rfl)
      clear hkn
      obtain ⟨lo, hlo1⟩ : ∃ q, q = (agF x.p.es l f k).1 := ⟨_, rfl⟩
      obtain ⟨hi, hhi1⟩ : ∃ q, q = (agF x.p.es l f k).2 := ⟨_, rfl⟩
      have HP : Hid (agF x.p.es l f k = (lo, hi)) := Lib.hid (by rw [hlo1, hhi1])
      rw [← hlo1, ← hhi1] at HE ⊢
      by_cases hq : hi < lo
      · clear hlo1 hhi1
        go_wp2_with fail
        refine (nothing_any _).mono ?_
        rintro e w4 ⟨rfl, hb4⟩
        have y0 := (HJ.out.2.2.below hb4 HJ.out.2.2.lt)
        have y1 := y0.at 0 (v := vi 0) rfl
        have y2 := y0.at 1 (v := vi 0) rfl
        have y3 := y0.free 0
        have y4 := y0.free 1
        have HY := Lib.hid (And.intro (newer_trans HJ.out.1 hb4) y0)
        clear y0 hb4
        go_wp2_with fail
        have z := (HY.out.2.set 0 (vi 1)).set 1 (vi 0)
        have z0 := z.at 0 (v := vi 1) rfl
        have z1 := z.at 1 (v := vi 0) rfl
        exact bodyPost_ret (v := .agg #[vi 1, vi 0]) (by simp [results, Try.results67, go_sem, z0, z1]) rfl ⟨by rw [HE.out, if_pos hq], (HY.out.1.setCell (p := ⟨w.heap.size + 1, 0, none⟩) (Nat.le_succ _) _).setCell (p := ⟨w.heap.size + 1, 1, none⟩) (Nat.le_succ _) _⟩
      · clear hlo1 hhi1
        have y1 := HJ.out.2.2.at 0 (v := vi 0) rfl
        have y2 := HJ.out.2.2.at 1 (v := vi 0) rfl
        have y3 := HJ.out.2.2.free 0
        have y4 := HJ.out.2.2.free 1
        go_wp2_with fail
        have z := (HJ.out.2.2.set 0 (vi lo)).set 1 (vi hi)
        have z0 := z.at 0 (v := vi lo) rfl
        have z1 := z.at 1 (v := vi hi) rfl
        exact bodyPost_ret (v := .agg #[vi lo, vi hi]) (by simp [results, Try.results67, go_sem, z0, z1]) rfl ⟨by rw [HE.out, if_neg (by omega), HP.out], (HJ.out.1.setCell (p := ⟨w.heap.size + 1, 0, none⟩) (Nat.le_succ _) _).setCell (p := ⟨w.heap.size + 1, 1, none⟩) (Nat.le_succ _) _⟩

end Go.Proofs.Ytpmafnifgegfbaa

namespace Go.Proofs.Ytpmafnifgegfbaa
open Go.RowKit Go.Shelf Go.Deep

set_option maxRecDepth 100000 in
set_option maxHeartbeats 1000000 in
theorem level_any (x : Pm) (v : Int) (w : World) (hp : PoOk x.p) (hv : 0 ≤ v ∧ v ≤ 1000) (hlv : x.p.g = 60 ∨ x.p.fall ≤ v) : Calls Try.prog 128 #[pmV x, vi v] w fun e w' => e = .returned (.int .u8 (levelA x.p v)) ∧ newer w w' := by
  have hnw := newer_allocH w (.cells (pmC x) 32)
  have hbx := Whole.made w 32 (pmC x)
  have hfew := leftA_few hp hv.1
  have HP := Lib.hid (And.intro hp hv)
  have ho := hp.o
  have HV : Hid (levelA x.p v = if leftA x.p v ≤ x.p.out then 3 else 2) := Lib.hid rfl
  have hgd := hp.gd
  have hze : x.p.fall ≤ v → leftA x.p v = 0 := fun h => by unfold leftA; rw [if_pos h]
  have HC := Lib.hid (fun W => leftA_any x v W hp hv hlv)
  obtain ⟨n, hn⟩ : ∃ n, n = leftA x.p v := ⟨_, rfl⟩
  rw [← hn] at HV hfew HC hze
  have HW2 : Hid (n ≤ x.p.out ∨ n ≤ x.p.out + x.p.ah) := Lib.hid (by
    rcases hlv with h | h
    · right; omega
    · left; have := hze h; omega)
  clear hze hgd hlv
  obtain ⟨q, hq⟩ : ∃ q, q = levelA x.p v := ⟨_, rfl⟩
  rw [← hq] at HV ⊢
  clear hn hq hp hv
  have H0 := Lib.hid (And.intro hnw hbx)
  have x0 := hbx.at 0 (v := .slice x.a x.p.es.length x.c) rfl
  have x1 := hbx.at 1 (v := vi x.p.g) rfl
  have x2 := hbx.at 2 (v := vi x.p.d) rfl
  have x3 := hbx.at 3 (v := vi x.p.fall) rfl
  have x4 := hbx.at 4 (v := vi x.p.out) rfl
  have x5 := hbx.at 5 (v := vi x.p.ah) rfl
  clear hnw hbx
  go_enter Try.func128, Try.ntmps128
  go_wp2_with fail
  refine (HC.out _).mono ?_
  rintro e w1 ⟨rfl, hb⟩
  have H1 := Lib.hid (And.intro (newer_trans H0.out.1 hb) (H0.out.2.below hb H0.out.2.lt))
  clear hb x0 x1 x2 x3 x4 x5 H0
  go_upto_region 3 with fail
  refine genQ (fun X => newer w X ∧ Whole X w.heap.size 32 (pmC x) ∧ Whole X w1.heap.size 209 #[.int .u8 3, .func (.func 142) #[] #[], .int .u8 2, .func (.func 143) #[] #[], .int .u8 1, .func (.func 144) #[] #[]]) ⟨newer_trans H1.out.1 (newer_allocH _ _), H1.out.2.below (newer_allocH _ _) H1.out.2.lt, Whole.made _ _ _⟩ ?_
  obtain ⟨rb, hrb⟩ : ∃ q, q = w1.heap.size := ⟨_, rfl⟩
  rw [← hrb]
  clear hrb H1
  intro w2 hj
  have HJ2 := Lib.hid hj
  clear hj
  go_loopw [7, 16] (fun _ i wr => (i = vi 0 ∨ (i = vi 1 ∧ ¬ n ≤ x.p.out)) ∧ newer w wr ∧ Whole wr w.heap.size 32 (pmC x) ∧ Whole wr rb 209 #[.int .u8 3, .func (.func 142) #[] #[], .int .u8 2, .func (.func 143) #[] #[], .int .u8 1, .func (.func 144) #[] #[]]) (fun _ i _ => 2 - (intOf i).toNat)
  case atStart => exact ⟨.inl rfl, HJ2.out⟩
  case round =>
    obtain ⟨hi, hj⟩ := hrel
    have HJ := Lib.hid hj
    have r0 := hj.2.2.at 0 (v := .int .u8 3) rfl
    have r1 := hj.2.2.at 1 (v := .func (.func 142) #[] #[]) rfl
    have r2 := hj.2.2.at 2 (v := .int .u8 2) rfl
    have r3 := hj.2.2.at 3 (v := .func (.func 143) #[] #[]) rfl
    have x0 := hj.2.1.at 0 (v := .slice x.a x.p.es.length x.c) rfl
    have x1 := hj.2.1.at 1 (v := vi x.p.g) rfl
    have x2 := hj.2.1.at 2 (v := vi x.p.d) rfl
    have x3 := hj.2.1.at 3 (v := vi x.p.fall) rfl
    have x4 := hj.2.1.at 4 (v := vi x.p.out) rfl
    have x5 := hj.2.1.at 5 (v := vi x.p.ah) rfl
    clear hj HJ2
    rcases hi with rfl | ⟨rfl, hno⟩
    · have HK : Hid (newer w (wr.alloc (.cells #[.int .u8 3, .func (.func 142) #[] #[]] 209)) ∧ Whole (wr.alloc (.cells #[.int .u8 3, .func (.func 142) #[] #[]] 209)) w.heap.size 32 (pmC x) ∧ Whole (wr.alloc (.cells #[.int .u8 3, .func (.func 142) #[] #[]] 209)) rb 209 #[.int .u8 3, .func (.func 142) #[] #[], .int .u8 2, .func (.func 143) #[] #[], .int .u8 1, .func (.func 144) #[] #[]]) := Lib.hid ⟨newer_trans HJ.out.1 (newer_allocH _ _), HJ.out.2.1.below (newer_allocH _ _) HJ.out.2.1.lt, HJ.out.2.2.below (newer_allocH _ _) HJ.out.2.2.lt⟩
      have hz := Whole.made wr 209 #[.int .u8 3, .func (.func 142) #[] #[]]
      have HZ := Lib.hid hz
      have y0 := hz.at 0 (v := .int .u8 3) rfl
      have y1 := hz.at 1 (v := .func (.func 142) #[] #[]) rfl
      clear hz
      go_upto_region 5 with fail
      clear r0 r1 r2 r3 x0 x1 x2 x3 x4 x5 HJ
      obtain ⟨w3, hw3⟩ : ∃ w3, w3 = wr.alloc (.cells #[.int .u8 3, .func (.func 142) #[] #[]] 209) := ⟨_, rfl⟩
      obtain ⟨zb, hzb⟩ : ∃ zb, zb = wr.heap.size := ⟨_, rfl⟩
      rw [← hw3] at HK HZ y0 y1
      rw [← hzb] at HZ y0 y1
      have HK2 := Lib.hid (And.intro HK.out HZ.out)
      first | rw [← hw3] | skip
      rw [← hzb]
      clear hw3 hzb HK HZ
      have x0 := HK2.out.1.2.1.at 0 (v := .slice x.a x.p.es.length x.c) rfl
      have x1 := HK2.out.1.2.1.at 1 (v := vi x.p.g) rfl
      have x2 := HK2.out.1.2.1.at 2 (v := vi x.p.d) rfl
      have x3 := HK2.out.1.2.1.at 3 (v := vi x.p.fall) rfl
      have x4 := HK2.out.1.2.1.at 4 (v := vi x.p.out) rfl
      have x5 := HK2.out.1.2.1.at 5 (v := vi x.p.ah) rfl
      go_wp2_with fail
      refine (rank142_any x _ HP.out.1).mono ?_
      rintro e w4 ⟨rfl, hb⟩
      have HK4 := Lib.hid (And.intro (newer_trans HK2.out.1.1 hb) (And.intro (HK2.out.1.2.1.below hb HK2.out.1.2.1.lt) (HK2.out.1.2.2.below hb HK2.out.1.2.2.lt)))
      have HZ4 := Lib.hid (HK2.out.2.below hb HK2.out.2.lt)
      clear x0 x1 x2 x3 x4 x5 y0 y1 hb HK2
      have y0 := HZ4.out.at 0 (v := .int .u8 3) rfl
      by_cases hle : n ≤ x.p.out
      · go_wp2_with fail
        go_ret
        exact ⟨by rw [HV.out, if_pos hle]; rfl, HK4.out.1⟩
      · go_wp2_with fail
        go_roundw
        case rel => exact ⟨.inr ⟨rfl, by omega⟩, HK4.out⟩
        case measure => simp [intOf]
    · have HK : Hid (newer w (wr.alloc (.cells #[.int .u8 2, .func (.func 143) #[] #[]] 209)) ∧ Whole (wr.alloc (.cells #[.int .u8 2, .func (.func 143) #[] #[]] 209)) w.heap.size 32 (pmC x)) := Lib.hid ⟨newer_trans HJ.out.1 (newer_allocH _ _), HJ.out.2.1.below (newer_allocH _ _) HJ.out.2.1.lt⟩
      have hz := Whole.made wr 209 #[.int .u8 2, .func (.func 143) #[] #[]]
      have HZ := Lib.hid hz
      have y0 := hz.at 0 (v := .int .u8 2) rfl
      have y1 := hz.at 1 (v := .func (.func 143) #[] #[]) rfl
      clear hz
      go_upto_region 5 with fail
      clear r0 r1 r2 r3 x0 x1 x2 x3 x4 x5 HJ
      obtain ⟨w3, hw3⟩ : ∃ w3, w3 = wr.alloc (.cells #[.int .u8 2, .func (.func 143) #[] #[]] 209) := ⟨_, rfl⟩
      obtain ⟨zb, hzb⟩ : ∃ zb, zb = wr.heap.size := ⟨_, rfl⟩
      rw [← hw3] at HK HZ y0 y1
      rw [← hzb] at HZ y0 y1
      have HK2 := Lib.hid (And.intro HK.out HZ.out)
      first | rw [← hw3] | skip
      rw [← hzb]
      clear hw3 hzb HK HZ
      have x0 := HK2.out.1.2.at 0 (v := .slice x.a x.p.es.length x.c) rfl
      have x1 := HK2.out.1.2.at 1 (v := vi x.p.g) rfl
      have x2 := HK2.out.1.2.at 2 (v := vi x.p.d) rfl
      have x3 := HK2.out.1.2.at 3 (v := vi x.p.fall) rfl
      have x4 := HK2.out.1.2.at 4 (v := vi x.p.out) rfl
      have x5 := HK2.out.1.2.at 5 (v := vi x.p.ah) rfl
      go_wp2_with fail
      refine (rank143_any x _ HP.out.1).mono ?_
      rintro e w4 ⟨rfl, hb⟩
      have HK4 := Lib.hid (newer_trans HK2.out.1.1 hb)
      have HZ4 := Lib.hid (HK2.out.2.below hb HK2.out.2.lt)
      clear x0 x1 x2 x3 x4 x5 y0 y1 hb HK2
      have y0 := HZ4.out.at 0 (v := .int .u8 2) rfl
      have hle : n ≤ x.p.out + x.p.ah := by have := HW2.out; omega
      go_wp2_with fail
      go_ret
      exact ⟨by rw [HV.out, if_neg (by omega)]; rfl, HK4.out⟩
theorem yes66 (n lo hi : Int) (w : World) (h : lo ≤ n ∧ n ≤ hi) : Calls Try.prog 66 #[.int .i64 n, .int .i64 lo, .int .i64 hi] w fun e w' => e = .returned (.bool true) ∧ w = w' := by
  have h1 := within2_any n lo hi w
  rw [show inB n lo hi = true by unfold inB; simp; omega] at h1
  exact h1
theorem yes123 (n : Int) (w : World) (h : 0 ≤ n ∧ n ≤ 60) : Calls Try.prog 123 #[vi n] w fun e w' => e = .returned (.bool true) ∧ w = w' := by
  have h1 := hour_any n w
  rw [show inB n 0 60 = true by unfold inB; simp; omega] at h1
  exact h1
theorem yes124 (n : Int) (w : World) (h : 0 ≤ n ∧ n ≤ 200) : Calls Try.prog 124 #[vi n] w fun e w' => e = .returned (.bool true) ∧ w = w' := by
  have h1 := step_any n w
  rw [show inB n 0 200 = true by unfold inB; simp; omega] at h1
  exact h1
theorem yesAs (l : List Int) (cp : Nat) (A : Option Addr) (w : World) (hn : l.length ≤ 1000) (hrow : Row intL 1 w w.heap.size A l) (h : ∀ n ∈ l, 0 ≤ n ∧ n ≤ 1000) : Calls Try.prog 97 #[.slice A l.length cp, .func (.func 125) #[] #[]] w fun e w' => e = .returned (.bool true) ∧ newer w w' := by
  have h1 := allAs_any l (fun n => inB n 0 1000) cp A w hn hrow (fun c _ W _ => (speed_any c W).mono fun e w' h => ⟨h.1, h.2 ▸ Below.refl _ _⟩)
  rw [show (l.all fun n => inB n 0 1000) = true by
    rw [List.all_eq_true]
    intro n hm
    have := h n hm
    unfold inB; simp; omega] at h1
  exact h1
theorem yesAc (l : List Int) (cp : Nat) (A : Option Addr) (w : World) (hn : l.length ≤ 1000) (hrow : Row intL 1 w w.heap.size A l) (h : ∀ n ∈ l, -1000 ≤ n ∧ n ≤ 2000) : Calls Try.prog 97 #[.slice A l.length cp, .func (.func 98) #[] #[]] w fun e w' => e = .returned (.bool true) ∧ newer w w' := by
  have h1 := allAc_any l (fun n => inB n (-1000) 2000) cp A w hn hrow (fun c _ W _ => (chk_any c W).mono fun e w' h => ⟨h.1, h.2 ▸ Below.refl _ _⟩)
  rw [show (l.all fun n => inB n (-1000) 2000) = true by
    rw [List.all_eq_true]
    intro n hm
    have := h n hm
    unfold inB; simp; omega] at h1
  exact h1
set_option maxRecDepth 100000 in
set_option maxHeartbeats 1000000 in
theorem valid_yes (x : Pm) (w : World) (hok : PmAt x w) (hp : PoOk x.p) : Calls Try.prog 96 #[pmV x] w fun e w' => e = .returned (.bool true) ∧ newer w w' := by
  have hnw := newer_allocH w (.cells (pmC x) 32)
  have hbx := Whole.made w 32 (pmC x)
  have HP := Lib.hid hp
  have h0 := hp.n0
  have h1 := hp.n1
  have hf := hp.f
  have ho := hp.o
  have hgd := hp.gd
  have H0 := Lib.hid (And.intro hnw (And.intro hbx (hok.next hnw)))
  have x0 := hbx.at 0 (v := .slice x.a x.p.es.length x.c) rfl
  clear hok hp hnw hbx
  go_enter Try.func96, Try.ntmps96
  go_wp2_with fail
  refine (yes66 _ _ _ _ (by omega)).mono ?_
  rintro e w1 ⟨rfl, rfl⟩
  go_wp2_with fail
  refine (yesAs x.p.es x.c x.a _ (by omega) H0.out.2.2 HP.out.e).mono ?_
  rintro e w1 ⟨rfl, hb⟩
  have H1 := Lib.hid (And.intro (newer_trans H0.out.1 hb) (H0.out.2.1.below hb H0.out.2.1.lt))
  clear x0 hb H0
  have x1 := H1.out.2.at 1 (v := vi x.p.g) rfl
  have x2 := H1.out.2.at 2 (v := vi x.p.d) rfl
  have x3 := H1.out.2.at 3 (v := vi x.p.fall) rfl
  have x4 := H1.out.2.at 4 (v := vi x.p.out) rfl
  have x5 := H1.out.2.at 5 (v := vi x.p.ah) rfl
  go_wp2_with fail
  refine (yes124 _ _ (by omega)).mono ?_
  rintro e w2 ⟨rfl, rfl⟩
  go_wp2_with fail
  refine (yes124 _ _ (by omega)).mono ?_
  rintro e w2 ⟨rfl, rfl⟩
  go_wp2_with fail
  refine (yes66 _ _ _ _ (by omega)).mono ?_
  rintro e w2 ⟨rfl, rfl⟩
  go_wp2_with fail
  refine (yes123 _ _ (by omega)).mono ?_
  rintro e w2 ⟨rfl, rfl⟩
  go_wp2_with fail
  refine (yes123 _ _ (by omega)).mono ?_
  rintro e w2 ⟨rfl, rfl⟩
  go_wp2_with fail
  go_ret
  exact ⟨rfl, H1.out.1⟩
/-- Rows of numbers in memory. -/
def IRows (R : List (List Int)) (A : Option Addr) (w : World) : Prop := ∀ (k : Nat) (l : List Int), R[k]? = some l → ∃ b off B c, A = some ⟨b, off, none⟩ ∧ b < w.heap.size ∧ w.cell? ⟨b, off + k, none⟩ = some (.slice B l.length c) ∧ Row intL 1 w w.heap.size B l
theorem IRows.next {R : List (List Int)} {A : Option Addr} {w w' : World} (h : IRows R A w) (hb : newer w w') : IRows R A w' := fun k l hk => by
  obtain ⟨b, off, B, c, h1, h2, h3, h4⟩ := h k l hk
  exact ⟨b, off, B, c, h1, Nat.lt_of_lt_of_le h2 hb.size, keep_cell h3 hb, (h4.below hb).more hb.size⟩
structure RowsOk (p : Po) (R : List (List Int)) : Prop where
  n : R.length ≤ 60
  l : ∀ l ∈ R, l.length = p.es.length
  b : ∀ l ∈ R, ∀ n ∈ l, -1000 ≤ n ∧ n ≤ 2000
set_option maxRecDepth 100000 in
set_option maxHeartbeats 1000000 in
theorem check_yes (x : Pm) (R : List (List Int)) (A : Option Addr) (c : Nat) (w : World) (hok : PmAt x w) (hp : PoOk x.p) (hr : IRows R A w) (hR : RowsOk x.p R) : Calls Try.prog 64 #[pmV x, .slice A R.length c] w fun e w' => e = .returned (.int .i64 0) ∧ newer w w' := by
  have hnw := newer_allocH w (.cells (pmC x) 32)
  have hbx := Whole.made w 32 (pmC x)
  have HP := Lib.hid (And.intro hp hR)
  have hn := hR.n
  have H0 := Lib.hid (And.intro hnw (And.intro hbx (And.intro (hok.next hnw) (hr.next hnw))))
  have x0 := hbx.at 0 (v := .slice x.a x.p.es.length x.c) rfl
  have x1 := hbx.at 1 (v := vi x.p.g) rfl
  have x2 := hbx.at 2 (v := vi x.p.d) rfl
  have x3 := hbx.at 3 (v := vi x.p.fall) rfl
  have x4 := hbx.at 4 (v := vi x.p.out) rfl
  have x5 := hbx.at 5 (v := vi x.p.ah) rfl
  obtain ⟨n, hN⟩ : ∃ n, n = R.length := ⟨_, rfl⟩
  have HN := Lib.hid hN
  rw [← hN] at hn ⊢
  clear hok hp hnw hbx hr hR hN
  go_enter Try.func64, Try.ntmps64
  go_wp2_with fail
  go_step3
  go_wp2_with fail
  refine (valid_yes x _ H0.out.2.2.1 HP.out.1).mono ?_
  rintro e w1 ⟨rfl, hb⟩
  have H1 := Lib.hid (And.intro (newer_trans H0.out.1 hb) (And.intro (H0.out.2.1.below hb H0.out.2.1.lt) (H0.out.2.2.2.next hb)))
  clear hb H0 x0 x1 x2 x3 x4 x5
  go_wp2_with fail
  go_step3
  go_wp2_with fail
  go_loopw [5, 7, 18] (fun s5 _ i wr => ∃ k : Nat, k ≤ n ∧ i = .int .i64 k ∧ s5 = .int .i64 0 ∧ newer w wr ∧ Whole wr w.heap.size 32 (pmC x) ∧ IRows R A wr) (fun _ _ i _ => n - (intOf i).toNat)
  case atStart => exact ⟨0, Nat.zero_le _, rfl, rfl, H1.out⟩
  case round =>
    obtain ⟨k, hk, rfl, rfl, hj⟩ := hrel
    have HJ := Lib.hid hj
    clear hj
    by_cases hlt : k < n
    · obtain ⟨l, hl⟩ := get_of_lt (l := R) (k := k) (by have := HN.out; omega)
      obtain ⟨b, off, B, c2, rfl, hb, h0, hrow⟩ := HJ.out.2.2 k l hl
      have hll := HP.out.2.l l (List.mem_of_getElem? hl)
      have hlb := HP.out.2.b l (List.mem_of_getElem? hl)
      have hl10 : l.length ≤ 1000 := by rw [hll]; have := HP.out.1.n1; omega
      have HA := Lib.hid (fun W (h : Row intL 1 W W.heap.size B l) => yesAc l c2 B W hl10 h hlb)
      have HROW := Lib.hid hrow
      have x0 := HJ.out.2.1.at 0 (v := .slice x.a x.p.es.length x.c) rfl
      rw [hll] at h0 HA
      clear hrow hlb hl10 hll hl
      go_wp2_with fail
      refine (HA.out _ HROW.out).mono ?_
      rintro e w2 ⟨rfl, hb2⟩
      have HJ2 := Lib.hid (And.intro (newer_trans HJ.out.1 hb2) (And.intro (HJ.out.2.1.below hb2 HJ.out.2.1.lt) (HJ.out.2.2.next hb2)))
      clear hb2 x0 h0
      go_wp2_with fail
      go_roundw
      case rel => exact ⟨k + 1, by omega, by go_num, rfl, HJ2.out⟩
      case measure => simp [intOf]; omega
    · go_wp2_with fail
      first | rw [Exit.noGoto_ret] | skip
      go_ret
      exact ⟨rfl, HJ.out.1⟩

end Go.Proofs.Ytpmafnifgegfbaa

namespace Go.Proofs.Ytpmafnifgegfbaa
open Go.RowKit Go.Shelf Go.Deep

open Go.ChangeMaps (setBlock)
section
variable {V : Type} {ev : V → Value} {P : Program} {kt : TypeId}
/-- A key taken out of a map of numbers. -/
theorem delete_runI {vt t ty : TypeId} (hk : P.underlying kt = some (.int .i64)) (ht : P.underlying t = some (.map kt vt)) {w : World} {b : Nat} {l : List (Int × V)} (h : KMap vi ev b l w) (a : Int) :
    ∃ o, (Builtin.delete_ #[t, kt] ty #[.map (some b), vi a]).run P w = .ok (.tuple #[]) (setBlock w b o) ∧ KMap vi ev b (l.filter fun p => decide (p.1 ≠ a)) (setBlock w b o) := by
  obtain ⟨L, n, h1, rfl⟩ := h
  have hkey : ∀ L' : List (Nat × Int × V), L' = L.filter (fun y => decide (y.2.1 ≠ a)) → KMap vi ev b ((L.map (·.2)).filter fun p => decide (p.1 ≠ a)) (setBlock w b (.map (entS vi ev L').toArray n)) := by
    rintro L' rfl
    refine ⟨L.filter fun y => decide (y.2.1 ≠ a), n, h1.put (fun x hx => h1.st x (List.mem_filter.1 hx).1) (h1.nd.sublist (List.Sublist.map _ List.filter_sublist)) (h1.kn.sublist (List.Sublist.map _ List.filter_sublist)), ?_⟩
    rw [List.filter_map]
    rfl
  cases hh : atR a (L.map (·.2)) 0 with
  | none =>
    refine ⟨.map (entS vi ev L).toArray n, ?_, hkey L ?_⟩
    · simp only [Builtin.delete_, Sem.run_bind, List.getElem?_toArray, List.getElem?_cons_zero, List.getElem?_cons_succ, run_underlying ht, MapKept.run_getObj_map h1.at_, check_i hk, find_runI hk a w L, hh, Option.map_none, MapKept.run_setObj_map _ h1.at_, Result.andThen, setBlock]
      rfl
    · exact (List.filter_eq_self.2 fun y hy => by
        have := atR_none hh y.2 (List.mem_map.2 ⟨y, hy, rfl⟩)
        simpa using fun e => this e.symm).symm
  | some q =>
    obtain ⟨i, v⟩ := q
    obtain ⟨_, hi⟩ := atR_some hh
    rw [Nat.sub_zero, List.getElem?_map] at hi
    obtain ⟨x, hx, hxe⟩ := Option.map_eq_some_iff.1 hi
    have hl := (List.getElem?_eq_some_iff.1 hx).1
    refine ⟨.map ((entS vi ev L).toArray.eraseIdxIfInBounds i) n, ?_, ?_⟩
    · simp only [Builtin.delete_, Sem.run_bind, List.getElem?_toArray, List.getElem?_cons_zero, List.getElem?_cons_succ, run_underlying ht, MapKept.run_getObj_map h1.at_, check_i hk, find_runI hk a w L, hh, Option.map_some, MapKept.run_setObj_map _ h1.at_, Result.andThen, setBlock]
      rfl
    · have e : (entS vi ev L).toArray.eraseIdxIfInBounds i = (entS vi ev (L.eraseIdx i)).toArray := by
        apply Array.ext'
        unfold Array.eraseIdxIfInBounds
        rw [dif_pos (by simpa [entS] using hl)]
        simp only [entS, List.eraseIdx_toArray, List.toList_toArray]
        exact erase_map _ _ _
      rw [e]
      refine hkey _ ?_
      rw [erase_filter (fun y : Nat × Int × V => y.2.1) h1.kn hx]
      apply List.filter_congr
      intro y _
      rw [show x.2.1 = a by rw [hxe]]
/-- A lookup that tells whether it found. -/
theorem lookup2_runI {vt mt : TypeId} (hk : P.underlying kt = some (.int .i64)) (ht : P.underlying mt = some (.map kt vt)) {W : World} {z : Value} (hz : (zeroValue vt).run P W = .ok z W) {b : Nat} {l : List (Int × V)} (h : KMap vi ev b l W) (a : Int) :
    (Instr.lookup mt (.map (some b)) (vi a) true).run P W = .ok (.tuple #[((atR a l 0).map fun p => ev p.2).getD z, .bool (atR a l 0).isSome]) W := by
  obtain ⟨L, n, h1, rfl⟩ := h
  unfold Instr.lookup
  simp only [Sem.run_bind, run_underlying ht, Result.andThen, MapKept.run_getObj_map h1.at_, check_i hk]
  cases hh : atR a (L.map (·.2)) 0 with
  | none =>
    have hf := find_runI (ev := ev) hk a W L
    rw [hh] at hf
    simp [hf, hz]
  | some q =>
    have hf := find_runI (ev := ev) hk a W L
    rw [hh] at hf
    simp [hf]
theorem atR_mem {l : List (Int × V)} {a : Int} {i : Nat} {v : V} (h : atR a l 0 = some (i, v)) : (a, v) ∈ l := by
  obtain ⟨_, hi⟩ := atR_some h
  rw [Nat.sub_zero] at hi
  exact List.mem_of_getElem? hi
theorem putM_mem {l : List (Int × V)} {a : Int} {v : V} {q : Int × V} (h : q ∈ putM l a v) : q = (a, v) ∨ q ∈ l := by
  unfold putM at h
  split at h
  · rcases List.mem_or_eq_of_mem_set h with h | h
    · exact .inr h
    · exact .inl h
  · rcases List.mem_append.1 h with h | h
    · exact .inr h
    · exact .inl (List.mem_singleton.1 h)
theorem putM_here (l : List (Int × V)) (a : Int) (v : V) : (a, v) ∈ putM l a v := by
  unfold putM
  split
  · rename_i i v0 h
    obtain ⟨_, hi⟩ := atR_some h
    rw [Nat.sub_zero] at hi
    have hl := (List.getElem?_eq_some_iff.1 hi).1
    exact List.mem_of_getElem? (i := i) (by rw [List.getElem?_set_self hl])
  · exact List.mem_append.2 (.inr (List.mem_singleton.2 rfl))
theorem putM_other {l : List (Int × V)} {a : Int} {v : V} {q : Int × V} (hq : q ∈ l) (hne : q.1 ≠ a) : q ∈ putM l a v := by
  unfold putM
  split
  · rename_i i v0 h
    obtain ⟨_, hi⟩ := atR_some h
    rw [Nat.sub_zero] at hi
    obtain ⟨j, hj⟩ := List.mem_iff_getElem?.1 hq
    have hij : i ≠ j := by
      rintro rfl
      rw [hi] at hj
      injection hj with hj
      exact hne (by rw [← hj])
    exact List.mem_of_getElem? (i := j) (by rw [List.getElem?_set_ne hij, hj])
  · exact List.mem_append.2 (.inl hq)
end
section
variable {V : Type} {ev : V → Value} {P : Program} {F : Fence} {nF : Nat} {ops : Array Oper} {rest : List Oper} {o : Oper} {a : Act} {Q : Exit → Act → World → Prop}
theorem wpListIn_update_i (w : World) (hg : o.guard = none) (m x v : Operand) (t : TypeId) (hop : o.op = Op.mapUpdate t m x v)
    {kt vt : TypeId} (hk : P.underlying kt = some (.int .i64)) (ht : P.underlying t = some (.map kt vt)) (b : Nat) (l : List (Int × V)) (hm : a.eval m = .map (some b)) (h : KMap vi ev b l w) (k : Int) (y : V) (hx : a.eval x = vi k) (hv : a.eval v = ev y)
    (hK : ∀ ob, KMap vi ev b (putM l k y) (setBlock w b ob) → wpListIn F nF P ops Q rest (a.put o.dst undef) (setBlock w b ob)) :
    wpListIn F nF P ops Q (o :: rest) a w := by
  refine wpListIn_plain hg fun K' hK' => ?_
  obtain ⟨ob, hrun, h1⟩ := update_runI hk ht h k y
  unfold Oper.wpIn
  refine ⟨by simp [Oper.about, hop], ?_⟩
  rw [Oper.semAt_plain F _ _ (by rw [hop]; intro c hc'; cases hc')]
  simp only [execOp, hop, hm, hx, hv, hrun, Sem.run_bind, Result.andThen]
  exact hK' _ _ (hK ob h1)
theorem wpListIn_lookup2_i (w : World) (hg : o.guard = none) (m x : Operand) (t : TypeId) (hop : o.op = Op.lookup t m x true)
    {kt vt : TypeId} (hk : P.underlying kt = some (.int .i64)) (ht : P.underlying t = some (.map kt vt)) {z : Value} (hz : (zeroValue vt).run P w = .ok z w) (b : Nat) (l : List (Int × V)) (hm : a.eval m = .map (some b)) (h : KMap vi ev b l w) (k : Int) (hx : a.eval x = vi k)
    (hK : wpListIn F nF P ops Q rest (a.put o.dst (.tuple #[((atR k l 0).map fun p => ev p.2).getD z, .bool (atR k l 0).isSome])) w) :
    wpListIn F nF P ops Q (o :: rest) a w := by
  refine wpListIn_plain hg fun K' hK' => ?_
  have hrun := lookup2_runI hk ht hz h k
  unfold Oper.wpIn
  refine ⟨by simp [Oper.about, hop], ?_⟩
  rw [Oper.semAt_plain F _ _ (by rw [hop]; intro c hc'; cases hc')]
  simp only [execOp, hop, hm, hx, hrun, Sem.run_bind, Result.andThen]
  exact hK' _ _ hK
theorem wpListIn_delete_i (w : World) (hg : o.guard = none) (m x : Operand) (t kt : TypeId) (hop : o.op = Op.call { callee := Callee.builtin Builtin.delete, args := #[m, x], argTypes := #[t, kt] })
    {vt : TypeId} (hk : P.underlying kt = some (.int .i64)) (ht : P.underlying t = some (.map kt vt)) (b : Nat) (l : List (Int × V)) (hm : a.eval m = .map (some b)) (h : KMap vi ev b l w) (k : Int) (hx : a.eval x = vi k)
    (hK : ∀ ob, KMap vi ev b (l.filter fun p => decide (p.1 ≠ k)) (setBlock w b ob) → wpListIn F nF P ops Q rest (a.put o.dst (.tuple #[])) (setBlock w b ob)) :
    wpListIn F nF P ops Q (o :: rest) a w := by
  refine wpListIn_plain hg fun K' hK' => ?_
  obtain ⟨ob, hrun, h1⟩ := delete_runI (ty := o.type) hk ht h k
  unfold Oper.wpIn
  refine ⟨by simp [Oper.about, hop, resolve, Target.leads, Sem.run_pure], ?_⟩
  rw [Oper.semAt_plain F _ _ (by rw [hop]; intro c hc'; cases hc')]
  simp [execOp, hop, resolve, invoke, builtin, hm, hx, hrun, Result.andThen]
  exact hK' _ _ (hK ob h1)
end
/-- What may be, with each gauge that may have failed: the ends are right, and with none that has failed the speed v may be. -/
structure MayOk (v : Int) (l : List (Int × Int × Int)) : Prop where
  bd : ∀ q ∈ l, 0 ≤ q.2.1 ∧ q.2.1 ≤ q.2.2 ∧ q.2.2 ≤ 1000
  at_ : ∃ x : Int × Int, (-1, x) ∈ l ∧ x.1 ≤ v ∧ v ≤ x.2
theorem MayOk.put {v : Int} {l : List (Int × Int × Int)} (h : MayOk v l) {f : Int} (hf : f ≠ -1) {y : Int × Int} (hy : 0 ≤ y.1 ∧ y.1 ≤ y.2 ∧ y.2 ≤ 1000) : MayOk v (putM l f y) := by
  refine ⟨fun q hq => ?_, ?_⟩
  · rcases putM_mem hq with rfl | hq
    · exact hy
    · exact h.bd q hq
  · obtain ⟨x, h1, h2⟩ := h.at_
    exact ⟨x, putM_other h1 (fun e => hf e.symm), h2⟩
theorem MayOk.turn {v v' : Int} {l : List (Int × Int × Int)} (h : MayOk v l) {y : Int × Int} (hy : 0 ≤ y.1 ∧ y.1 ≤ y.2 ∧ y.2 ≤ 1000) (h1 : y.1 ≤ v' ∧ v' ≤ y.2) : MayOk v' (putM l (-1) y) := by
  refine ⟨fun q hq => ?_, y, putM_here _ _ _, h1⟩
  rcases putM_mem hq with rfl | hq
  · exact hy
  · exact h.bd q hq
theorem MayOk.del {v : Int} {l : List (Int × Int × Int)} (h : MayOk v l) {f : Int} (hf : f ≠ -1) : MayOk v (l.filter fun p => decide (p.1 ≠ f)) := by
  refine ⟨fun q hq => h.bd q (List.mem_filter.1 hq).1, ?_⟩
  obtain ⟨x, h1, h2⟩ := h.at_
  exact ⟨x, List.mem_filter.2 ⟨h1, by simpa using fun e => hf e.symm⟩, h2⟩
abbrev prC (e : Int × Int) : Array Value := #[vi e.1, vi e.2]
abbrev waC (x : Pm) (mb : Nat) : Array Value := #[.slice x.a x.p.es.length x.c, vi x.p.g, vi x.p.d, vi x.p.fall, vi x.p.out, vi x.p.ah, .map (some mb)]
/-- A watch in memory. -/
structure WaIn (x : Pm) (wb mb : Nat) (l : List (Int × Int × Int)) (W : World) : Prop where
  bx : Whole W wb 187 (waC x mb)
  mp : KMap vi prV mb l W
  er : PmAt x W
theorem WaIn.next {x : Pm} {wb mb : Nat} {l : List (Int × Int × Int)} {W W' : World} (h : WaIn x wb mb l W) (hb : newer W W') : WaIn x wb mb l W' := ⟨h.bx.below hb h.bx.lt, h.mp.next hb, h.er.next hb⟩
theorem zeroEnds (W : World) : (zeroValue 136).run Try.prog W = .ok (prV (0, 0)) W := by
  simp [zeroValue, Sem.run_bind, Result.andThen]
  rw [show Try.t136.zero = some (prV (0, 0)) by kernel_rfl]
  rfl
theorem whole_setBlock2 {W : World} {b g : Nat} {ty : TypeId} {cs : Array Value} {o : Obj} (h : Whole W b ty cs) (hg : b ≠ g) : Whole (setBlock W g o) b ty cs := h.same (setBlock_get_ne o hg)
set_option maxHeartbeats 1000000 in
theorem failing_any (wb : Nat) (w : World) : Calls Try.prog 127 #[.pointer (some ⟨wb, 0, none⟩)] w fun e w' => e = .returned (.func (.func 140) #[] #[.pointer (some ⟨w.heap.size, 0, none⟩)]) ∧ w' = w.alloc (.cells #[.pointer (some ⟨wb, 0, none⟩)] 133) := by
  go_enter Try.func127, Try.ntmps127
  go_wp2_with fail
  go_ret
  exact ⟨rfl, rfl⟩
def BegunR (x : Pm) (w w' : World) (wb : Nat) : Prop := ∃ mb l, w.heap.size ≤ mb ∧ mb < wb ∧ WaIn x wb mb l w' ∧ ∀ v, 0 ≤ v ∧ v ≤ 1000 → MayOk v l
set_option maxRecDepth 100000 in
set_option maxHeartbeats 1000000 in
theorem begin_any (x : Pm) (w : World) (hok : PmAt x w) (hp : PoOk x.p) : Calls Try.prog 99 #[pmV x] w fun e w' => ∃ wb, e = .returned (.pointer (some ⟨wb, 0, none⟩)) ∧ newer w w' ∧ BegunR x w w' wb := by
  have hnw := newer_allocH w (.cells (pmC x) 32)
  have hbx := Whole.made w 32 (pmC x)
  have H0 := Lib.hid (And.intro hnw (And.intro hbx (hok.next hnw)))
  have HP := Lib.hid hp
  have HOK := Lib.hid hok
  have hn10 := hp.n1
  have x0 := hbx.at 0 (v := .slice x.a x.p.es.length x.c) rfl
  have x1 := hbx.at 1 (v := vi x.p.g) rfl
  have x2 := hbx.at 2 (v := vi x.p.d) rfl
  have x3 := hbx.at 3 (v := vi x.p.fall) rfl
  have x4 := hbx.at 4 (v := vi x.p.out) rfl
  have x5 := hbx.at 5 (v := vi x.p.ah) rfl
  clear hok hp hnw hbx
  go_enter Try.func99, Try.ntmps99
  go_wp2_with fail
  rw [run_makeMap]
  go_upto_region 2 with fail
  refine genQ (fun X => newer w X ∧ Whole X w.heap.size 32 (pmC x) ∧ WaIn x (w.heap.size + 1 + 1) (w.heap.size + 1) [] X) ?hg ?_
  case hg =>
    have e1 := newer_allocH w (.cells (pmC x) 32)
    have e2 := newer_allocH (w.alloc (.cells (pmC x) 32)) (.map #[] 0)
    have e3 := newer_allocH ((w.alloc (.cells (pmC x) 32)).alloc (.map #[] 0)) (.cells (waC x (w.heap.size + 1)) 187)
    have a1 := KMap.made vi prV (w.alloc (.cells (pmC x) 32))
    have a2 := Whole.made ((w.alloc (.cells (pmC x) 32)).alloc (.map #[] 0)) 187 (waC x (w.heap.size + 1))
    rw [World.size_alloc] at a1
    rw [World.size_alloc, World.size_alloc] at a2
    exact ⟨newer_trans (newer_trans e1 e2) e3, (H0.out.2.1.alloc _).alloc _, a2, a1.next e3, H0.out.2.2.next (newer_trans e2 e3)⟩
  obtain ⟨mb, hmb⟩ : ∃ q, q = w.heap.size + 1 := ⟨_, rfl⟩
  obtain ⟨wb, hwb⟩ : ∃ q, q = w.heap.size + 1 + 1 := ⟨_, rfl⟩
  rw [← hwb, ← hmb]
  have HMB := Lib.hid (show w.heap.size < mb ∧ mb < wb by omega)
  have HER := Lib.hid H0.out.2.2
  intro w2 h2
  have H2 := Lib.hid h2
  clear h2 hmb hwb x0 x1 x2 x3 x4 x5
  go_wp2_with fail
  go_loopw [4] (fun i wr => ∃ k : Nat, k ≤ x.p.es.length + 1 ∧ i = vi ((k : Int) - 1) ∧ newer w wr ∧ Whole wr w.heap.size 32 (pmC x) ∧ ∃ l, WaIn x wb mb l wr ∧ (∀ q ∈ l, q.2 = (0, 1000)) ∧ (1 ≤ k → (-1, ((0 : Int), (1000 : Int))) ∈ l)) (fun i _ => (x.p.es.length + 1 - intOf i).toNat)
  case atStart => exact ⟨0, Nat.zero_le _, rfl, H2.out.1, H2.out.2.1, [], H2.out.2.2, (fun q hq => absurd hq List.not_mem_nil), (fun h => absurd h (by decide))⟩
  case round =>
    obtain ⟨k, hk, rfl, hnw, hbx, l, hwa, hq, hn⟩ := hrel
    have HJ := Lib.hid (And.intro hnw (And.intro hbx (And.intro hwa (And.intro hq hn))))
    have x0 := hbx.at 0 (v := .slice x.a x.p.es.length x.c) rfl
    have y6 := hwa.bx.at 6 (v := .map (some mb)) rfl
    clear hnw hbx hwa hq hn H2
    by_cases hlt : (k : Int) - 1 < x.p.es.length
    · go_wp2_with (at_mapUpdate; refine wpList_update_i _ rfl _ _ _ 185 rfl Try.underlying3 Try.underlying185 mb l rfl HJ.out.2.2.1.mp ((k : Int) - 1) (0, 1000) rfl rfl ?_; intro ob hob; have HOB := Lib.hid hob; clear hob)
      have HN : Hid (newer w (setBlock wr mb ob) ∧ Whole (setBlock wr mb ob) w.heap.size 32 (pmC x) ∧ Whole (setBlock wr mb ob) wb 187 (waC x mb)) := Lib.hid ⟨below_setBlock HJ.out.1 (by have := HMB.out; omega) ob, whole_setBlock2 HJ.out.2.1 (by have := HMB.out; omega), whole_setBlock2 HJ.out.2.2.1.bx (by have := HMB.out; omega)⟩
      go_roundw
      case rel =>
        refine ⟨k + 1, by omega, by rw [show ((k + 1 : Nat) : Int) - 1 = (k : Int) by omega], HN.out.1, HN.out.2.1, putM l ((k : Int) - 1) (0, 1000), ⟨HN.out.2.2, HOB.out, HOK.out.next HN.out.1⟩, fun q hq => ?_, fun _ => ?_⟩
        · rcases putM_mem hq with rfl | hq
          · rfl
          · exact HJ.out.2.2.2.1 q hq
        · by_cases h0 : k = 0
          · subst h0
            exact putM_here _ _ _
          · exact putM_other (HJ.out.2.2.2.2 (by omega)) (fun e => by have e2 : (-1 : Int) = (k : Int) - 1 := e; omega)
      case measure => simp [intOf]; omega
    · go_wp2_with fail
      go_ret
      exact ⟨wb, rfl, HJ.out.1, mb, l, (by have := HMB.out; omega), HMB.out.2, HJ.out.2.2.1, fun v hv => ⟨fun q hq => by rw [HJ.out.2.2.2.1 q hq]; decide, _, HJ.out.2.2.2.2 (by have := HP.out.n0; omega), hv⟩⟩
set_option maxRecDepth 100000 in
set_option maxHeartbeats 1000000 in
theorem fail_in (q lb c wb mb : Nat) (x : Pm) (hp : PoOk x.p) (J : Nat → World → Prop)
    (hJ : ∀ k W, J k W → Whole W c 133 #[.pointer (some ⟨wb, 0, none⟩)] ∧ ∃ l, WaIn x wb mb l W)
    (hN : ∀ k W W', J k W → newer W W' → J k W')
    (hS : ∀ k W l, k ≤ x.p.es.length → J k W → WaIn x wb mb l W → (∀ y, ((k : Int) - 1, y) ∉ l) → J (k + 1) W)
    (hY : ∀ k W l y, k ≤ x.p.es.length → J k W → WaIn x wb mb l W → ((k : Int) - 1, y) ∈ l → YieldAt Fence.wide (q - 1) Try.prog lb #[vi ((k : Int) - 1), prV y] W fun e W'' => e = .returned (.bool true) ∧ J (k + 1) W'')
    (W : World) (hW : J 0 W) :
    CallsIn Fence.wide q Try.prog 140 #[.func (.yield lb) #[] #[], .pointer (some ⟨c, 0, none⟩)] W fun e W' => (∃ v, e = .returned v) ∧ J (x.p.es.length + 1) W' := by
  have HJ := Lib.hid hJ
  have HN := Lib.hid hN
  have HS := Lib.hid hS
  have HY := Lib.hid hY
  have hn10 := hp.n1
  clear hJ hN hS hY hp
  refine callsIn_of_wp Try.func140 rfl trivial ?_ rfl
  simp only [Try.ntmps140, List.size_toArray, List.length_cons, List.length_nil, Nat.reduceAdd, Nat.reduceSub, Array.replicate_succ, Array.replicate_zero, List.push_toArray, List.append_toArray, List.nil_append, List.cons_append]
  gi_wp2_with fail
  gi_loopw [3, 4, 5] (fun s3 _ _ wr => ∃ k : Nat, k ≤ x.p.es.length + 1 ∧ s3 = vi ((k : Int) - 1) ∧ J k wr) (fun s3 _ _ _ => (x.p.es.length + 1 - intOf s3).toNat)
  case atStart => exact ⟨0, Nat.zero_le _, rfl, hW⟩
  case round =>
    obtain ⟨k, hk, rfl, hj⟩ := hrel
    obtain ⟨hc, l, hl⟩ := HJ.out _ _ hj
    have HL := Lib.hid hl
    have HC := Lib.hid (And.intro hc hj)
    have c0 := hc.at 0 (v := .pointer (some ⟨wb, 0, none⟩)) rfl
    have y0 := hl.bx.at 0 (v := .slice x.a x.p.es.length x.c) rfl
    have y6 := hl.bx.at 6 (v := .map (some mb)) rfl
    clear hc hl hj hW
    by_cases hlt : (k : Int) - 1 < x.p.es.length
    · cases hat : atR ((k : Int) - 1) l 0 with
      | none =>
        have HAT := Lib.hid hat
        clear hat
        gi_wp2_with (gi_at_lookup; refine wpListIn_lookup2_i _ rfl _ _ 185 rfl Try.underlying3 Try.underlying185 (zeroEnds _) mb l rfl HL.out.mp ((k : Int) - 1) rfl ?_; rw [HAT.out]; simp only [Option.map_none, Option.getD_none, Option.isSome_none])
        refine ⟨fun f h => (by cases h), ?_⟩
        have HJ2 := Lib.hid (HS.out k _ l (by omega) (HN.out _ _ _ HC.out.2 (newer_allocH wr (.cells #[vi 0, vi 0] 136))) (HL.out.next (newer_allocH wr (.cells #[vi 0, vi 0] 136))) (fun y hy => atR_none HAT.out _ hy rfl))
        gi_wp2_with fail
        go_roundw
        case rel => exact ⟨k + 1, by omega, by rw [show ((k + 1 : Nat) : Int) - 1 = (k : Int) by omega], HJ2.out⟩
        case measure => simp [intOf]; omega
      | some q =>
        obtain ⟨i, y⟩ := q
        have HAT := Lib.hid hat
        clear hat
        have HYK := Lib.hid (HY.out k (wr.alloc (.cells (prC y) 136)) l y (by omega) (HN.out _ _ _ HC.out.2 (newer_allocH wr _)) (HL.out.next (newer_allocH wr _)) (atR_mem HAT.out))
        obtain ⟨fn, tmps, assign, body, hy, hR⟩ := HYK.out
        gi_wp2_with (gi_at_lookup; refine wpListIn_lookup2_i _ rfl _ _ 185 rfl Try.underlying3 Try.underlying185 (zeroEnds _) mb l rfl HL.out.mp ((k : Int) - 1) rfl ?_; rw [HAT.out]; simp only [Option.map_some, Option.getD_some, Option.isSome_some])
        refine ⟨fun h => (by cases h), hR.mono ?_⟩
        clear hy hR c0 y0 y6
        rintro e w3 ⟨rfl, hj3⟩
        gi_wp2_with fail
        go_roundw
        case rel => exact ⟨k + 1, by omega, by rw [show ((k + 1 : Nat) : Int) - 1 = (k : Int) by omega], hj3⟩
        case measure => simp [intOf]; omega
    · obtain rfl : k = x.p.es.length + 1 := by omega
      gi_wp2_with fail
      go_end0
      exact ⟨⟨_, rfl⟩, HC.out.2⟩

end Go.Proofs.Ytpmafnifgegfbaa
