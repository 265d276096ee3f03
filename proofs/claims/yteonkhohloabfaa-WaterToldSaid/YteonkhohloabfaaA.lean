/- Words for memory and leaf contracts of the water layer: what the small functions of the program and of the reference compute, for every input. -/
import Derived.Test.YteonkhohloabfaaRows
import Derived.WalkKit
import Derived.WalkSpells
import Derived.WalkLawsBesides
import Derived.Lib.Hide
namespace Go.Proofs.Yteonkhohloabfaa
open Go.RowKit

/-! ## Plain data -/
structure Cell where
  lo : Int
  hi : Int
  cap : Int
  keep : Int
  pass : Int
  to : Int
  pump : Int

structure Day where
  lo : Int
  hi : Int
  warm : Int

abbrev vi (n : Int) : Value := .int .i64 n
abbrev cellL (c : Cell) : List Value := [vi c.lo, vi c.hi, vi c.cap, vi c.keep, vi c.pass, vi c.to, vi c.pump]
abbrev dayL (d : Day) : List Value := [vi d.lo, vi d.hi, vi d.warm]
abbrev intL (n : Int) : List Value := [vi n]
abbrev cellV (c : Cell) : Value := .agg #[vi c.lo, vi c.hi, vi c.cap, vi c.keep, vi c.pass, vi c.to, vi c.pump]
abbrev dayV (d : Day) : Value := .agg #[vi d.lo, vi d.hi, vi d.warm]

def inB (n lo hi : Int) : Bool := decide (lo ≤ n) && decide (n ≤ hi)
def upB (lo hi most : Int) : Bool := decide (0 ≤ lo) && decide (lo ≤ hi) && decide (hi ≤ most)
def cellB (n : Nat) (c : Cell) : Bool :=
  inB c.cap 1 100000 && upB c.lo c.hi c.cap && inB c.keep 0 c.cap && inB c.pass 0 1000 && inB c.to (-1) ((n : Int) - 1) && inB c.pump 0 100000
def dayB (d : Day) : Bool := upB d.lo d.hi 1000 && inB d.warm (-50) 50

/-! ## A slice that reads as a list of elements of some cells each -/
def Row {α : Type} (enc : α → List Value) (s : Nat) (w : World) (B : Nat) (A : Option Addr) (l : List α) : Prop :=
  l ≠ [] → ∃ b off, A = some ⟨b, off, none⟩ ∧ b < B ∧ ∀ (k : Nat) (x : α), l[k]? = some x → ∀ (j : Nat) (v : Value), (enc x)[j]? = some v → w.cell? ⟨b, off + k * s + j, none⟩ = some v

section
variable {α : Type} {enc : α → List Value} {s B B' : Nat} {w w' : World} {A : Option Addr} {l : List α}
theorem Row.keep (h : Row enc s w B A l) (hk : ∀ p : Addr, p.block < B → w'.cell? p = w.cell? p) : Row enc s w' B A l := fun hl => by
  obtain ⟨b, off, e, hb, hc⟩ := h hl
  exact ⟨b, off, e, hb, fun k x hx j v hv => (hk _ hb).trans (hc k x hx j v hv)⟩
theorem Row.below (h : Row enc s w B A l) (hb : Below B w w') : Row enc s w' B A l := h.keep fun _ hp => hb.cell hp
theorem Row.more (h : Row enc s w B A l) (hB : B ≤ B') : Row enc s w B' A l := fun hl => by
  obtain ⟨b, off, e, hb, hc⟩ := h hl
  exact ⟨b, off, e, by omega, hc⟩
theorem Row.nil (A : Option Addr) : Row enc s w B A [] := fun h => absurd rfl h
theorem ne_nil_of_get {k : Nat} {x : α} (h : l[k]? = some x) : l ≠ [] := by rintro rfl; simp at h
theorem get_of_lt {k : Nat} (h : k < l.length) : ∃ x, l[k]? = some x := ⟨l[k], List.getElem?_eq_getElem h⟩
end

theorem row7 {w : World} {B : Nat} {A : Option Addr} {l : List Cell} (h : Row cellL 7 w B A l) {k : Nat} {c : Cell} (hk : l[k]? = some c) :
    ∃ b off, A = some ⟨b, off, none⟩ ∧ b < B ∧ w.cell? ⟨b, off + k * 7, none⟩ = some (.int .i64 c.lo) ∧ w.cell? ⟨b, off + k * 7 + 1, none⟩ = some (.int .i64 c.hi) ∧ w.cell? ⟨b, off + k * 7 + 2, none⟩ = some (.int .i64 c.cap) ∧
      w.cell? ⟨b, off + k * 7 + 3, none⟩ = some (.int .i64 c.keep) ∧ w.cell? ⟨b, off + k * 7 + 4, none⟩ = some (.int .i64 c.pass) ∧ w.cell? ⟨b, off + k * 7 + 5, none⟩ = some (.int .i64 c.to) ∧ w.cell? ⟨b, off + k * 7 + 6, none⟩ = some (.int .i64 c.pump) := by
  obtain ⟨b, off, e, hb, hc⟩ := h (ne_nil_of_get hk)
  exact ⟨b, off, e, hb, hc k c hk 0 _ rfl, hc k c hk 1 _ rfl, hc k c hk 2 _ rfl, hc k c hk 3 _ rfl, hc k c hk 4 _ rfl, hc k c hk 5 _ rfl, hc k c hk 6 _ rfl⟩
theorem row3 {w : World} {B : Nat} {A : Option Addr} {l : List Day} (h : Row dayL 3 w B A l) {k : Nat} {c : Day} (hk : l[k]? = some c) :
    ∃ b off, A = some ⟨b, off, none⟩ ∧ b < B ∧ w.cell? ⟨b, off + k * 3, none⟩ = some (.int .i64 c.lo) ∧ w.cell? ⟨b, off + k * 3 + 1, none⟩ = some (.int .i64 c.hi) ∧ w.cell? ⟨b, off + k * 3 + 2, none⟩ = some (.int .i64 c.warm) := by
  obtain ⟨b, off, e, hb, hc⟩ := h (ne_nil_of_get hk)
  exact ⟨b, off, e, hb, hc k c hk 0 _ rfl, hc k c hk 1 _ rfl, hc k c hk 2 _ rfl⟩
theorem row1 {w : World} {B : Nat} {A : Option Addr} {l : List Int} (h : Row intL 1 w B A l) {k : Nat} {c : Int} (hk : l[k]? = some c) :
    ∃ b off, A = some ⟨b, off, none⟩ ∧ b < B ∧ w.cell? ⟨b, off + k, none⟩ = some (.int .i64 c) := by
  obtain ⟨b, off, e, hb, hc⟩ := h (ne_nil_of_get hk)
  exact ⟨b, off, e, hb, by simpa using hc k c hk 0 _ rfl⟩

theorem lt_of_below {W w1 : World} {B : Nat} (hb : Below B W w1) : W.heap.size ≤ w1.heap.size := hb.size
theorem below_step {B : Nat} {a b c : World} (h : Below B a b) (k : Below b.heap.size b c) (hB : B ≤ b.heap.size) : Below B a c := h.trans (k.mono hB)
theorem below_next {a b c : World} (h : Below a.heap.size a b) (k : Below b.heap.size b c) : Below a.heap.size a c := h.trans (k.mono h.size)

theorem ret_int {k : IntKind} {a b : Int} (h : a = b) : Ending.returned (.int k a) = .returned (.int k b) := by rw [h]
theorem ret_bool {a b : Bool} (h : a = b) : Ending.returned (.bool a) = .returned (.bool b) := by rw [h]
theorem cell_alloc {w : World} {p : Addr} {v : Value} (h : w.cell? p = some v) (o : Obj) : (w.alloc o).cell? p = some v :=
  (World.cell?_alloc_lt _ _ _ (World.block_lt_of_cell? w _ h)).trans h

/-! ## Leaves -/
set_option maxHeartbeats 400000 in
theorem within_any (n lo hi : Int) (w : World) :
    Calls Try.prog 64 #[.int .i64 n, .int .i64 lo, .int .i64 hi] w fun e w' => e = .returned (.bool (inB n lo hi)) ∧ w = w' := by
  by_cases h1 : lo ≤ n <;> by_cases h2 : n ≤ hi <;>
  (go_enter Try.func64, Try.ntmps64
   go_wp2
   go_ret
   exact ⟨by simp [inB, h1, h2], rfl⟩)

set_option maxHeartbeats 400000 in
theorem in_any (n lo hi : Int) (w : World) :
    Calls Try.prog 27 #[.int .i64 n, .int .i64 lo, .int .i64 hi] w fun e w' => e = .returned (.bool (inB n lo hi)) ∧ w = w' := by
  by_cases h1 : lo ≤ n <;> by_cases h2 : n ≤ hi <;>
  (go_enter Try.func27, Try.ntmps27
   go_wp2
   go_ret
   exact ⟨by simp [inB, h1, h2], rfl⟩)

set_option maxHeartbeats 400000 in
theorem up_any (lo hi most : Int) (w : World) :
    Calls Try.prog 65 #[.agg #[.int .i64 lo, .int .i64 hi], .int .i64 most] w fun e w' => e = .returned (.bool (upB lo hi most)) ∧ w.alloc (.cells #[.int .i64 lo, .int .i64 hi] 36) = w' := by
  by_cases h1 : 0 ≤ lo <;> by_cases h2 : lo ≤ hi <;> by_cases h3 : hi ≤ most <;>
  (go_enter Try.func65, Try.ntmps65
   go_wp2
   go_ret
   exact ⟨by simp [upB, h1, h2, h3], rfl⟩)

set_option maxHeartbeats 400000 in
theorem upTo_any (lo hi most : Int) (w : World) :
    Calls Try.prog 70 #[.agg #[.int .i64 lo, .int .i64 hi], .int .i64 most] w fun e w' => e = .returned (.bool (upB lo hi most)) ∧ w.alloc (.cells #[.int .i64 lo, .int .i64 hi] 24) = w' := by
  by_cases h1 : 0 ≤ lo <;> by_cases h2 : lo ≤ hi <;> by_cases h3 : hi ≤ most <;>
  (go_enter Try.func70, Try.ntmps70
   go_wp2
   go_ret
   exact ⟨by simp [upB, h1, h2, h3], rfl⟩)

set_option maxHeartbeats 400000 in
theorem has_any (lo hi n : Int) (w : World) :
    Calls Try.prog 91 #[.agg #[.int .i64 lo, .int .i64 hi], .int .i64 n] w fun e w' => e = .returned (.bool (inB n lo hi)) ∧ w.alloc (.cells #[.int .i64 lo, .int .i64 hi] 36) = w' := by
  go_enter Try.func91, Try.ntmps91
  go_wp2_with (go_at_call 64; refine (within_any _ _ _ _).mono ?_; rintro e w' ⟨rfl, rfl⟩)
  go_ret
  exact ⟨rfl, rfl⟩

set_option maxHeartbeats 400000 in
theorem refHas_any (lo hi n : Int) (w : World) :
    Calls Try.prog 71 #[.agg #[.int .i64 lo, .int .i64 hi], .int .i64 n] w fun e w' => e = .returned (.bool (inB n lo hi)) ∧ w.alloc (.cells #[.int .i64 lo, .int .i64 hi] 24) = w' := by
  go_enter Try.func71, Try.ntmps71
  go_wp2_with (go_at_call 27; refine (in_any _ _ _ _).mono ?_; rintro e w' ⟨rfl, rfl⟩)
  go_ret
  exact ⟨rfl, rfl⟩

set_option maxHeartbeats 400000 in
theorem to_any (lo hi : Int) (w : World) :
    Calls Try.prog 57 #[.agg #[.int .i64 lo, .int .i64 hi]] w fun e w' => e = .returned (.agg #[.int .i64 lo, .int .i64 hi]) ∧ Below w.heap.size w w' := by
  go_enter Try.func57, Try.ntmps57
  go_wp2
  exact bodyPost_ret (v := .agg #[.int .i64 lo, .int .i64 hi]) (by simp [results, Try.results57, go_sem]) rfl ⟨rfl, ((Below.refl _ _).alloc (Nat.le_refl _) _).alloc (by simp) _⟩

set_option maxHeartbeats 400000 in
theorem span_any (lo hi : Int) (w : World) :
    Calls Try.prog 50 #[.int .i64 lo, .int .i64 hi] w fun e w' => e = .returned (.agg #[.int .i64 lo, .int .i64 hi]) ∧ Below w.heap.size w w' := by
  go_enter Try.func50, Try.ntmps50
  go_wp2
  exact bodyPost_ret (v := .agg #[.int .i64 lo, .int .i64 hi]) (by simp [results, Try.results50, go_sem]) rfl ⟨rfl, (Below.refl _ _).alloc (Nat.le_refl _) _⟩

set_option maxHeartbeats 400000 in
theorem low_any (lo hi : Int) (w : World) :
    Calls Try.prog 84 #[.agg #[.int .i64 lo, .int .i64 hi]] w fun e w' => e = .returned (.int .i64 lo) ∧ Below w.heap.size w w' := by
  go_enter Try.func84, Try.ntmps84
  go_wp2
  go_ret
  exact ⟨rfl, (Below.refl _ _).alloc (Nat.le_refl _) _⟩

set_option maxHeartbeats 400000 in
theorem high_any (lo hi : Int) (w : World) :
    Calls Try.prog 85 #[.agg #[.int .i64 lo, .int .i64 hi]] w fun e w' => e = .returned (.int .i64 hi) ∧ Below w.heap.size w w' := by
  go_enter Try.func85, Try.ntmps85
  go_wp2
  go_ret
  exact ⟨rfl, (Below.refl _ _).alloc (Nat.le_refl _) _⟩

set_option maxHeartbeats 1000000 in
theorem checkCell_any (c : Cell) (gb : Nat) (A : Option Addr) (n cp : Nat) (w : World) (hn : n ≤ 1000)
    (hg : w.cell? ⟨gb, 0, none⟩ = some (.slice A n cp)) :
    Calls Try.prog 63 #[cellV c, .pointer (some ⟨gb, 0, none⟩)] w 
      fun e w' => (e = .returned (.bool (cellB n c))) ∧ Below w.heap.size w w' := by
  obtain ⟨lo, hi, cap, keep, pass, to, pump⟩ := c
  have hlt := World.block_lt_of_cell? w _ hg
  dsimp only at hlt
  unfold cellB
  dsimp only
  cases h1 : inB cap 1 100000
  case' true => cases h2 : upB lo hi cap
  case' true.true => cases h3 : inB keep 0 cap
  case' true.true.true => cases h4 : inB pass 0 1000
  case' true.true.true.true => cases h5 : inB to (-1) ((n : Int) - 1)
  case' true.true.true.true.true => cases h6 : inB pump 0 100000
  all_goals
    (go_enter Try.func63, Try.ntmps63
     go_wp2_with (first | (go_at_call 64; refine (within_any _ _ _ _).mono ?_; rintro e w' ⟨rfl, rfl⟩) | (go_at_call 65; refine (up_any _ _ _ _).mono ?_; rintro e w' ⟨rfl, rfl⟩))
     go_ret
     refine ⟨by simp, ?_⟩
     first | exact (Below.refl _ _).alloc (Nat.le_refl _) _ | exact ((Below.refl _ _).alloc (Nat.le_refl _) _).alloc (by simp) _)

set_option maxHeartbeats 1000000 in
theorem checkDay_any (d : Day) (w : World) :
    Calls Try.prog 83 #[dayV d] w fun e w' => (e = .returned (.bool (dayB d))) ∧ Below w.heap.size w w' := by
  obtain ⟨lo, hi, warm⟩ := d
  unfold dayB
  dsimp only
  cases h1 : upB lo hi 1000
  case' true => cases h2 : inB warm (-50) 50
  all_goals
    (go_enter Try.func83, Try.ntmps83
     go_wp2_with (first | (go_at_call 64; refine (within_any _ _ _ _).mono ?_; rintro e w' ⟨rfl, rfl⟩) | (go_at_call 65; refine (up_any _ _ _ _).mono ?_; rintro e w' ⟨rfl, rfl⟩))
     go_ret
     refine ⟨by simp, ?_⟩
     first | exact (Below.refl _ _).alloc (Nat.le_refl _) _ | exact ((Below.refl _ _).alloc (Nat.le_refl _) _).alloc (by simp) _)

end Go.Proofs.Yteonkhohloabfaa
