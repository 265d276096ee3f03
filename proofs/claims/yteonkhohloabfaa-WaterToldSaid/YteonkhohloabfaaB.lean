/- The tests of lists in the water layer: all, ContainsFunc and IndexFunc at cells and at days. -/
import Derived.Test.YteonkhohloabfaaA
namespace Go.Proofs.Yteonkhohloabfaa
open Go.RowKit

/-- The first index at which a test holds; -1 where there is none. -/
def idx {α : Type} (p : α → Bool) (l : List α) : Int :=
  match l.findIdx? p with
  | some i => (i : Int)
  | none => -1

theorem idx_here {α : Type} (p : α → Bool) (l : List α) (k : Nat) (c : α) (hk : l[k]? = some c) (hc : p c = true) (hb : ∀ j x, j < k → l[j]? = some x → p x = false) : idx p l = (k : Int) := by
  have hlt : k < l.length := (List.getElem?_eq_some_iff.1 hk).1
  have : l.findIdx? p = some k := by
    rw [List.findIdx?_eq_some_iff_getElem]
    refine ⟨hlt, ?_, fun j hj => ?_⟩
    · rw [(List.getElem?_eq_some_iff.1 hk).2]; exact hc
    · rw [hb j _ hj (List.getElem?_eq_getElem (by omega))]; simp
  unfold idx
  rw [this]

theorem idx_none {α : Type} (p : α → Bool) (l : List α) (hb : ∀ j x, j < l.length → l[j]? = some x → p x = false) : idx p l = -1 := by
  have : l.findIdx? p = none := by
    rw [List.findIdx?_eq_none_iff]
    intro x hx
    obtain ⟨j, hj, rfl⟩ := List.mem_iff_getElem.1 hx
    exact hb j _ hj (List.getElem?_eq_getElem hj)
  unfold idx
  rw [this]

theorem idx_all {α : Type} (p : α → Bool) (l : List α) : (!decide (0 ≤ idx (fun c => !p c) l)) = l.all p := by
  unfold idx
  cases h : l.findIdx? (fun c => !p c) with
  | none =>
    rw [List.findIdx?_eq_none_iff] at h
    have : l.all p = true := List.all_eq_true.2 fun x hx => by simpa using h x hx
    rw [this]; rfl
  | some i =>
    have h2 : l.all p = false := by
      rw [List.findIdx?_eq_some_iff_getElem] at h
      obtain ⟨hi, hp, _⟩ := h
      rw [List.all_eq_false]
      exact ⟨l[i], List.getElem_mem hi, by simpa using hp⟩
    rw [h2]
    simp

def early {α : Type} (p : α → Bool) (l : List α) (k : Nat) : Prop := ∀ j x, j < k → l[j]? = some x → p x = false
theorem early_zero {α : Type} (p : α → Bool) (l : List α) : early p l 0 := fun _ _ h => by omega
theorem early_succ {α : Type} {p : α → Bool} {l : List α} {k : Nat} {c : α} (h : early p l k) (hk : l[k]? = some c) (hc : p c = false) : early p l (k + 1) := fun j x hj hx => by
  rcases Nat.lt_or_ge j k with h1 | h1
  · exact h j x h1 hx
  · have : j = k := by omega
    subst this
    rw [hk] at hx; cases hx; exact hc

/-! ## Cells -/
set_option maxHeartbeats 400000 in
theorem notCell_any (c : Cell) (rb gb : Nat) (A : Option Addr) (n cp : Nat) (w : World) (hn : n ≤ 1000)
    (hr : w.cell? ⟨rb, 0, none⟩ = some (.func (.func 63) #[] #[.pointer (some ⟨gb, 0, none⟩)])) (hg : w.cell? ⟨gb, 0, none⟩ = some (.slice A n cp)) :
    Calls Try.prog 90 #[cellV c, .pointer (some ⟨rb, 0, none⟩)] w fun e w' => (e = .returned (.bool (!cellB n c))) ∧ Below w.heap.size w w' := by
  have hlt := World.block_lt_of_cell? w _ hr
  have hlt2 := World.block_lt_of_cell? w _ hg
  dsimp only at hlt hlt2
  have hg' := fun o => cell_alloc hg o
  go_enter Try.func90, Try.ntmps90
  go_wp2_with (go_at_call 63; refine (checkCell_any c gb A n cp _ hn (hg' _)).mono ?_; rintro e w' ⟨rfl, hb⟩)
  go_ret
  exact ⟨rfl, below_step ((Below.refl _ _).alloc (Nat.le_refl _) _) hb (by simp)⟩

set_option maxHeartbeats 400000 in
theorem idxCell_any (l : List Cell) (p : Cell → Bool) (cp rb : Nat) (A : Option Addr) (w : World) (hn : l.length ≤ 1000) (hrow : Row cellL 7 w w.heap.size A l)
    (hf : ∀ c W, Below w.heap.size w W → Calls Try.prog 90 #[cellV c, .pointer (some ⟨rb, 0, none⟩)] W fun e w' => e = .returned (.bool (p c)) ∧ Below W.heap.size W w') :
    Calls Try.prog 101 #[.slice A l.length cp, .func (.func 90) #[] #[.pointer (some ⟨rb, 0, none⟩)]] w fun e w' => e = .returned (.int .i64 (idx p l)) ∧ Below w.heap.size w w' := by
  have HF := Lib.hid hf
  clear hf
  obtain ⟨n, hnl⟩ : ∃ n, n = l.length := ⟨_, rfl⟩
  rw [← hnl] at hn ⊢
  have HN := Lib.hid hnl
  clear hnl
  go_enter Try.func101, Try.ntmps101
  go_wp2
  go_loopw [4, 5, 8] (fun _ _ i wr => ∃ k : Nat, k ≤ n ∧ i = .int .i64 k ∧ Below w.heap.size w wr ∧ early p l k) (fun _ _ i _ => n - (intOf i).toNat)
  case atStart => exact ⟨0, Nat.zero_le _, rfl, Below.refl _ _, early_zero _ _⟩
  case round =>
    obtain ⟨k, hk, rfl, hbw, he⟩ := hrel
    have HE := Lib.hid he
    clear he
    by_cases hlt : k < n
    · obtain ⟨c, hc⟩ := get_of_lt (l := l) (k := k) (by have := HN.out; omega)
      obtain ⟨b, off, rfl, hb, h0, h1, h2, h3, h4, h5, h6⟩ := row7 (hrow.below hbw) hc
      have HC := Lib.hid hc
      clear hc
      cases hp : p c
      · go_wp2_with (go_at_call 90; refine (HF.out c _ hbw).mono ?_; rintro e w' ⟨rfl, hb2⟩)
        go_roundw
        case rel => exact ⟨k + 1, by omega, by go_num, below_next hbw hb2, early_succ HE.out HC.out hp⟩
        case measure => simp [intOf]; omega
      · go_wp2_with (go_at_call 90; refine (HF.out c _ hbw).mono ?_; rintro e w' ⟨rfl, hb2⟩)
        go_ret
        exact ⟨ret_int (idx_here p l k c HC.out hp HE.out).symm, below_next hbw hb2⟩
    · go_wp2_with fail
      go_ret
      have hkn : k = l.length := by have := HN.out; omega
      exact ⟨ret_int (idx_none p l (hkn ▸ HE.out)).symm, hbw⟩

set_option maxHeartbeats 400000 in
theorem containsCell_any (l : List Cell) (p : Cell → Bool) (cp rb : Nat) (A : Option Addr) (w : World) (hn : l.length ≤ 1000) (hrow : Row cellL 7 w w.heap.size A l)
    (hf : ∀ c W, Below w.heap.size w W → Calls Try.prog 90 #[cellV c, .pointer (some ⟨rb, 0, none⟩)] W fun e w' => e = .returned (.bool (p c)) ∧ Below W.heap.size W w') :
    Calls Try.prog 89 #[.slice A l.length cp, .func (.func 90) #[] #[.pointer (some ⟨rb, 0, none⟩)]] w fun e w' => e = .returned (.bool (decide (0 ≤ idx p l))) ∧ Below w.heap.size w w' := by
  have HF := Lib.hid hf
  clear hf
  go_enter Try.func89, Try.ntmps89
  go_wp2_with (go_at_call 101; refine (idxCell_any l p cp rb A _ hn hrow HF.out).mono ?_; rintro e w' ⟨rfl, hb2⟩)
  go_ret
  exact ⟨rfl, hb2⟩

set_option maxHeartbeats 400000 in
theorem allCell_any (l : List Cell) (cp gb cp' : Nat) (A A' : Option Addr) (n : Nat) (w : World) (hn : l.length ≤ 1000) (hn' : n ≤ 1000) (hrow : Row cellL 7 w w.heap.size A l) (hg : w.cell? ⟨gb, 0, none⟩ = some (.slice A' n cp')) :
    Calls Try.prog 66 #[.slice A l.length cp, .func (.func 63) #[] #[.pointer (some ⟨gb, 0, none⟩)]] w fun e w' => e = .returned (.bool (l.all (cellB n))) ∧ Below w.heap.size w w' := by
  have hlt2 := World.block_lt_of_cell? w _ hg
  dsimp only at hlt2
  go_enter Try.func66, Try.ntmps66
  go_wp2_with (go_at_call 89; refine (containsCell_any l (fun c => !cellB n c) cp _ A _ hn ?hrow ?hf).mono ?_; rotate_left 2; rintro e w' ⟨rfl, hb2⟩)
  case hrow => exact (hrow.below ((Below.refl _ _).alloc (Nat.le_refl _) _)).more (by simp)
  case hf =>
    intro c W hbW
    refine notCell_any c _ gb A' n cp' W hn' ?_ ?_
    · rw [hbW.cell (p := ⟨w.heap.size, 0, none⟩) (by simp)]; simp
    · rw [hbW.cell (p := ⟨gb, 0, none⟩) (by simp; omega)]
      rw [World.cell?_alloc_lt _ _ _ (by simpa using hlt2)]; exact hg
  go_ret
  exact ⟨ret_bool (idx_all _ _), below_step ((Below.refl _ _).alloc (Nat.le_refl _) _) hb2 (by simp)⟩
/-! ## Days -/
set_option maxHeartbeats 400000 in
theorem notDay_any (c : Day) (rb : Nat) (w : World) (hr : w.cell? ⟨rb, 0, none⟩ = some (.func (.func 83) #[] #[])) :
    Calls Try.prog 99 #[dayV c, .pointer (some ⟨rb, 0, none⟩)] w fun e w' => (e = .returned (.bool (!dayB c))) ∧ Below w.heap.size w w' := by
  have hlt := World.block_lt_of_cell? w _ hr
  dsimp only at hlt
  go_enter Try.func99, Try.ntmps99
  go_wp2_with (go_at_call 83; refine (checkDay_any c _).mono ?_; rintro e w' ⟨rfl, hb⟩)
  go_ret
  exact ⟨rfl, below_step ((Below.refl _ _).alloc (Nat.le_refl _) _) hb (by simp)⟩

set_option maxHeartbeats 400000 in
theorem idxDay_any (l : List Day) (p : Day → Bool) (cp rb : Nat) (A : Option Addr) (w : World) (hn : l.length ≤ 1000) (hrow : Row dayL 3 w w.heap.size A l)
    (hf : ∀ c W, Below w.heap.size w W → Calls Try.prog 99 #[dayV c, .pointer (some ⟨rb, 0, none⟩)] W fun e w' => e = .returned (.bool (p c)) ∧ Below W.heap.size W w') :
    Calls Try.prog 103 #[.slice A l.length cp, .func (.func 99) #[] #[.pointer (some ⟨rb, 0, none⟩)]] w fun e w' => e = .returned (.int .i64 (idx p l)) ∧ Below w.heap.size w w' := by
  have HF := Lib.hid hf
  clear hf
  obtain ⟨n, hnl⟩ : ∃ n, n = l.length := ⟨_, rfl⟩
  rw [← hnl] at hn ⊢
  have HN := Lib.hid hnl
  clear hnl
  go_enter Try.func103, Try.ntmps103
  go_wp2
  go_loopw [4, 5, 8] (fun _ _ i wr => ∃ k : Nat, k ≤ n ∧ i = .int .i64 k ∧ Below w.heap.size w wr ∧ early p l k) (fun _ _ i _ => n - (intOf i).toNat)
  case atStart => exact ⟨0, Nat.zero_le _, rfl, Below.refl _ _, early_zero _ _⟩
  case round =>
    obtain ⟨k, hk, rfl, hbw, he⟩ := hrel
    have HE := Lib.hid he
    clear he
    by_cases hlt : k < n
    · obtain ⟨c, hc⟩ := get_of_lt (l := l) (k := k) (by have := HN.out; omega)
      obtain ⟨b, off, rfl, hb, h0, h1, h2⟩ := row3 (hrow.below hbw) hc
      have HC := Lib.hid hc
      clear hc
      cases hp : p c
      · go_wp2_with (go_at_call 99; refine (HF.out c _ hbw).mono ?_; rintro e w' ⟨rfl, hb2⟩)
        go_roundw
        case rel => exact ⟨k + 1, by omega, by go_num, below_next hbw hb2, early_succ HE.out HC.out hp⟩
        case measure => simp [intOf]; omega
      · go_wp2_with (go_at_call 99; refine (HF.out c _ hbw).mono ?_; rintro e w' ⟨rfl, hb2⟩)
        go_ret
        exact ⟨ret_int (idx_here p l k c HC.out hp HE.out).symm, below_next hbw hb2⟩
    · go_wp2_with fail
      go_ret
      have hkn : k = l.length := by have := HN.out; omega
      exact ⟨ret_int (idx_none p l (hkn ▸ HE.out)).symm, hbw⟩

set_option maxHeartbeats 400000 in
theorem containsDay_any (l : List Day) (p : Day → Bool) (cp rb : Nat) (A : Option Addr) (w : World) (hn : l.length ≤ 1000) (hrow : Row dayL 3 w w.heap.size A l)
    (hf : ∀ c W, Below w.heap.size w W → Calls Try.prog 99 #[dayV c, .pointer (some ⟨rb, 0, none⟩)] W fun e w' => e = .returned (.bool (p c)) ∧ Below W.heap.size W w') :
    Calls Try.prog 98 #[.slice A l.length cp, .func (.func 99) #[] #[.pointer (some ⟨rb, 0, none⟩)]] w fun e w' => e = .returned (.bool (decide (0 ≤ idx p l))) ∧ Below w.heap.size w w' := by
  have HF := Lib.hid hf
  clear hf
  go_enter Try.func98, Try.ntmps98
  go_wp2_with (go_at_call 103; refine (idxDay_any l p cp rb A _ hn hrow HF.out).mono ?_; rintro e w' ⟨rfl, hb2⟩)
  go_ret
  exact ⟨rfl, hb2⟩

set_option maxHeartbeats 400000 in
theorem allDay_any (l : List Day) (cp : Nat) (A : Option Addr) (w : World) (hn : l.length ≤ 1000) (hrow : Row dayL 3 w w.heap.size A l) :
    Calls Try.prog 82 #[.slice A l.length cp, .func (.func 83) #[] #[]] w fun e w' => e = .returned (.bool (l.all dayB)) ∧ Below w.heap.size w w' := by
  go_enter Try.func82, Try.ntmps82
  go_wp2_with (go_at_call 98; refine (containsDay_any l (fun c => !dayB c) cp _ A _ hn ?hrow ?hf).mono ?_; rotate_left 2; rintro e w' ⟨rfl, hb2⟩)
  case hrow => exact (hrow.below ((Below.refl _ _).alloc (Nat.le_refl _) _)).more (by simp)
  case hf =>
    intro c W hbW
    refine notDay_any c _ W ?_
    rw [hbW.cell (p := ⟨w.heap.size, 0, none⟩) (by simp)]; simp
  go_ret
  exact ⟨ret_bool (idx_all _ _), below_step ((Below.refl _ _).alloc (Nat.le_refl _) _) hb2 (by simp)⟩
end Go.Proofs.Yteonkhohloabfaa
