/- Shapes of the slope layer in memory; what is valid; more water. -/
import Derived.Test.YtkenokpobbichaaP
namespace Go.Proofs.Ytkenokpobbichaa
open Go.RowKit

structure Rg where
  lo : Int
  hi : Int
structure Bd where
  drive : Int
  normal : Int
  fr : Rg
  co : Rg
  wa : Rg
/-- What is true of a bed. -/
structure Rl where
  fr : Int
  co : Int
  wa : Int
/-- A column in memory. -/
structure Cl where
  beds : List Bd
  a : Option Addr
  cp : Nat
/-- A slope, as data. -/
structure Sd where
  cols : List (List Bd)
  least : Int
/-- A slope, in memory. -/
structure Sm where
  cs : List Cl
  a : Option Addr
  c : Nat
  least : Int
def Sm.sd (s : Sm) : Sd := ⟨s.cs.map (·.beds), s.least⟩
abbrev rgL (r : Rg) : List Value := [vi r.lo, vi r.hi]
abbrev rgV (r : Rg) : Value := .agg #[vi r.lo, vi r.hi]
abbrev bdL (b : Bd) : List Value := [vi b.drive, vi b.normal, vi b.fr.lo, vi b.fr.hi, vi b.co.lo, vi b.co.hi, vi b.wa.lo, vi b.wa.hi]
abbrev bdC (b : Bd) : Array Value := #[vi b.drive, vi b.normal, vi b.fr.lo, vi b.fr.hi, vi b.co.lo, vi b.co.hi, vi b.wa.lo, vi b.wa.hi]
abbrev bdV (b : Bd) : Value := .agg (bdC b)
abbrev rlL (x : Rl) : List Value := [vi x.fr, vi x.co, vi x.wa]
abbrev rlC (x : Rl) : Array Value := #[vi x.fr, vi x.co, vi x.wa]
abbrev rlV (x : Rl) : Value := .agg (rlC x)
abbrev clL (x : Cl) : List Value := [.slice x.a x.beds.length x.cp]
abbrev clV (x : Cl) : Value := .slice x.a x.beds.length x.cp
abbrev smC (s : Sm) : Array Value := #[.slice s.a s.cs.length s.c, vi s.least]
abbrev smV (s : Sm) : Value := .agg (smC s)
/-- A slope lies in memory. -/
structure SmOk (s : Sm) (W : World) : Prop where
  cs : Row clL 1 W W.heap.size s.a s.cs
  bd : ∀ x ∈ s.cs, Row bdL 8 W W.heap.size x.a x.beds
theorem SmOk.next {s : Sm} {W W' : World} (h : SmOk s W) (hb : newer W W') : SmOk s W' :=
  ⟨(h.cs.below hb).more hb.size, fun x hx => ((h.bd x hx).below hb).more hb.size⟩
theorem row8 {w : World} {B : Nat} {A : Option Addr} {l : List Bd} (h : Row bdL 8 w B A l) {k : Nat} {c : Bd} (hk : l[k]? = some c) :
    ∃ b off, A = some ⟨b, off, none⟩ ∧ b < B ∧ w.cell? ⟨b, off + k * 8, none⟩ = some (.int .i64 c.drive) ∧ w.cell? ⟨b, off + k * 8 + 1, none⟩ = some (.int .i64 c.normal) ∧ w.cell? ⟨b, off + k * 8 + 2, none⟩ = some (.int .i64 c.fr.lo) ∧ w.cell? ⟨b, off + k * 8 + 3, none⟩ = some (.int .i64 c.fr.hi) ∧
      w.cell? ⟨b, off + k * 8 + 4, none⟩ = some (.int .i64 c.co.lo) ∧ w.cell? ⟨b, off + k * 8 + 5, none⟩ = some (.int .i64 c.co.hi) ∧ w.cell? ⟨b, off + k * 8 + 6, none⟩ = some (.int .i64 c.wa.lo) ∧ w.cell? ⟨b, off + k * 8 + 7, none⟩ = some (.int .i64 c.wa.hi) := by
  obtain ⟨b, off, e, hb, hc⟩ := h (ne_nil_of_get hk)
  exact ⟨b, off, e, hb, hc k c hk 0 _ rfl, hc k c hk 1 _ rfl, hc k c hk 2 _ rfl, hc k c hk 3 _ rfl, hc k c hk 4 _ rfl, hc k c hk 5 _ rfl, hc k c hk 6 _ rfl, hc k c hk 7 _ rfl⟩
theorem row3 {w : World} {B : Nat} {A : Option Addr} {l : List Rl} (h : Row rlL 3 w B A l) {k : Nat} {c : Rl} (hk : l[k]? = some c) :
    ∃ b off, A = some ⟨b, off, none⟩ ∧ b < B ∧ w.cell? ⟨b, off + k * 3, none⟩ = some (.int .i64 c.fr) ∧ w.cell? ⟨b, off + k * 3 + 1, none⟩ = some (.int .i64 c.co) ∧ w.cell? ⟨b, off + k * 3 + 2, none⟩ = some (.int .i64 c.wa) := by
  obtain ⟨b, off, e, hb, hc⟩ := h (ne_nil_of_get hk)
  exact ⟨b, off, e, hb, hc k c hk 0 _ rfl, hc k c hk 1 _ rfl, hc k c hk 2 _ rfl⟩
theorem rowC {w : World} {B : Nat} {A : Option Addr} {l : List Cl} (h : Row clL 1 w B A l) {k : Nat} {c : Cl} (hk : l[k]? = some c) :
    ∃ b off, A = some ⟨b, off, none⟩ ∧ b < B ∧ w.cell? ⟨b, off + k, none⟩ = some (.slice c.a c.beds.length c.cp) := by
  obtain ⟨b, off, e, hb, hc⟩ := h (ne_nil_of_get hk)
  exact ⟨b, off, e, hb, by simpa using hc k c hk 0 _ rfl⟩
def rgU (r : Rg) (most : Int) : Bool := decide (0 ≤ r.lo) && decide (r.lo ≤ r.hi) && decide (r.hi ≤ most)
def bdB (b : Bd) : Bool := inB b.drive (-100000) 100000 && inB b.normal 0 100000 && rgU b.fr 2000 && rgU b.co 100000 && rgU b.wa 100000
/-- How many beds the columns have. -/
def Sd.n (s : Sd) : Nat := (s.cols.headD []).length
def Sd.K (s : Sd) : Nat := s.least.toNat
def slopeB (s : Sd) : Bool := inB s.cols.length 1 12 && inB s.n 1 5 && inB s.least 1 4 && s.cols.all fun l => decide (l.length = s.n) && l.all bdB
def holdsN (b : Bd) (x : Rl) : Int := mxI 0 (b.normal - x.wa) * x.fr / 1000 + x.co
/-- The truths in which a bed holds least, or most. -/
def endR (hi : Bool) (b : Bd) : Rl := if hi then ⟨b.fr.hi, b.co.hi, b.wa.lo⟩ else ⟨b.fr.lo, b.co.lo, b.wa.hi⟩
def bedAt (cols : List (List Bd)) (k b : Nat) : Option Bd := match cols[k]? with
  | some l => l[b]?
  | none => none
def hAt (hi : Bool) (s : Sd) (k b : Nat) : Int := match bedAt s.cols k b with
  | some x => holdsN x (endR hi x)
  | none => 0
def dAt (s : Sd) (k b : Nat) : Int := match bedAt s.cols k b with
  | some x => x.drive
  | none => 0
structure SdOk (s : Sd) : Prop where
  cols : 1 ≤ s.cols.length ∧ s.cols.length ≤ 12
  beds : 1 ≤ s.n ∧ s.n ≤ 5
  least : 1 ≤ s.least ∧ s.least ≤ 4
  len : ∀ l ∈ s.cols, l.length = s.n
  bd : ∀ l ∈ s.cols, ∀ b ∈ l, bdB b = true
theorem sdOk_iff {s : Sd} : slopeB s = true ↔ SdOk s := by
  unfold slopeB
  simp only [inB, Bool.and_eq_true, decide_eq_true_eq, List.all_eq_true]
  constructor
  · rintro ⟨⟨⟨h1, h2⟩, h3⟩, h4⟩
    exact ⟨by omega, by omega, h3, fun l hl => (h4 l hl).1, fun l hl b hb => (h4 l hl).2 b hb⟩
  · rintro ⟨h1, h2, h3, h4, h5⟩
    exact ⟨⟨⟨by omega, by omega⟩, h3⟩, fun l hl => ⟨h4 l hl, fun b hb => h5 l hl b hb⟩⟩
theorem bdB_parts {b : Bd} (h : bdB b = true) : (-100000 ≤ b.drive ∧ b.drive ≤ 100000) ∧ (0 ≤ b.normal ∧ b.normal ≤ 100000) ∧ (0 ≤ b.fr.lo ∧ b.fr.lo ≤ b.fr.hi ∧ b.fr.hi ≤ 2000) ∧ (0 ≤ b.co.lo ∧ b.co.lo ≤ b.co.hi ∧ b.co.hi ≤ 100000) ∧ (0 ≤ b.wa.lo ∧ b.wa.lo ≤ b.wa.hi ∧ b.wa.hi ≤ 100000) := by
  simp only [bdB, rgU, inB, Bool.and_eq_true, decide_eq_true_eq] at h
  omega
theorem holds_bd {b : Bd} {x : Rl} (hn : 0 ≤ b.normal ∧ b.normal ≤ 100000) (h1 : 0 ≤ x.fr ∧ x.fr ≤ 2000) (h2 : 0 ≤ x.co ∧ x.co ≤ 100000) (h3 : 0 ≤ x.wa) : 0 ≤ mxI 0 (b.normal - x.wa) * x.fr ∧ mxI 0 (b.normal - x.wa) * x.fr ≤ 200000000 ∧ 0 ≤ holdsN b x ∧ holdsN b x ≤ 300000 := by
  have hm : 0 ≤ mxI 0 (b.normal - x.wa) ∧ mxI 0 (b.normal - x.wa) ≤ 100000 := by unfold mxI; split <;> omega
  have h4 := mul_bd hm.1 hm.2 h1.1 h1.2
  unfold holdsN
  omega
theorem end_bd {b : Bd} (h : bdB b = true) (hi : Bool) : 0 ≤ holdsN b (endR hi b) ∧ holdsN b (endR hi b) ≤ 300000 := by
  obtain ⟨_, h2, h3, h4, h5⟩ := bdB_parts h
  have := holds_bd (b := b) (x := endR hi b) h2 (by cases hi <;> simp [endR] <;> omega) (by cases hi <;> simp [endR] <;> omega) (by cases hi <;> simp [endR] <;> omega)
  exact this.2.2
theorem bedAt_mem {cols : List (List Bd)} {k b : Nat} {x : Bd} (h : bedAt cols k b = some x) : ∃ l ∈ cols, cols[k]? = some l ∧ l[b]? = some x ∧ x ∈ l := by
  unfold bedAt at h
  split at h
  · rename_i l hl
    exact ⟨l, List.mem_of_getElem? hl, hl, h, List.mem_of_getElem? h⟩
  · cases h
theorem hd_ok {s : Sd} (h : SdOk s) (hi : Bool) : HdOk (hAt hi s) (dAt s) s.n s.cols.length s.K where
  h0 k b := by
    unfold hAt
    split
    · rename_i x hx
      obtain ⟨l, hl, _, _, hb⟩ := bedAt_mem hx
      exact (end_bd (h.bd l hl x hb) hi).1
    · exact Int.le_refl _
  h1 k b := by
    unfold hAt
    split
    · rename_i x hx
      obtain ⟨l, hl, _, _, hb⟩ := bedAt_mem hx
      exact (end_bd (h.bd l hl x hb) hi).2
    · omega
  d0 k b := by
    unfold dAt
    split
    · rename_i x hx
      obtain ⟨l, hl, _, _, hb⟩ := bedAt_mem hx
      exact (bdB_parts (h.bd l hl x hb)).1.1
    · omega
  d1 k b := by
    unfold dAt
    split
    · rename_i x hx
      obtain ⟨l, hl, _, _, hb⟩ := bedAt_mem hx
      exact (bdB_parts (h.bd l hl x hb)).1.2
    · omega
  n0 := h.beds.1
  K0 := by have := h.least; unfold Sd.K; omega
  few := by have := h.least; have := h.cols; unfold Sd.K; omega
/-- Is something true of a bed? -/
def fitB (b : Bd) (x : Rl) : Bool := inB x.fr b.fr.lo b.fr.hi && inB x.co b.co.lo b.co.hi && inB x.wa b.wa.lo b.wa.hi
theorem div_mono {a b : Int} (h : a ≤ b) : a / 1000 ≤ b / 1000 := by omega
theorem holds_mono {b : Bd} {x y : Rl} (h0 : 0 ≤ x.fr) (h1 : x.fr ≤ y.fr) (h2 : x.co ≤ y.co) (h3 : y.wa ≤ x.wa) : holdsN b x ≤ holdsN b y := by
  have hm : 0 ≤ mxI 0 (b.normal - x.wa) ∧ mxI 0 (b.normal - x.wa) ≤ mxI 0 (b.normal - y.wa) := by unfold mxI; split <;> split <;> omega
  have e1 : mxI 0 (b.normal - x.wa) * x.fr ≤ mxI 0 (b.normal - y.wa) * y.fr := Int.le_trans (Int.mul_le_mul_of_nonneg_right hm.2 h0) (Int.mul_le_mul_of_nonneg_left h1 (by omega))
  have := div_mono e1
  unfold holdsN
  omega
theorem fit_mono {b : Bd} {x : Rl} (hb : bdB b = true) (hx : fitB b x = true) : holdsN b (endR false b) ≤ holdsN b x ∧ holdsN b x ≤ holdsN b (endR true b) := by
  obtain ⟨_, _, h3, h4, h5⟩ := bdB_parts hb
  simp only [fitB, inB, Bool.and_eq_true, decide_eq_true_eq] at hx
  exact ⟨holds_mono (by simp [endR]; omega) (by simp [endR]; omega) (by simp [endR]; omega) (by simp [endR]; omega), holds_mono (by omega) (by simp [endR]; omega) (by simp [endR]; omega) (by simp [endR]; omega)⟩
theorem fit_end {b : Bd} (hb : bdB b = true) (hi : Bool) : fitB b (endR hi b) = true := by
  obtain ⟨_, _, h3, h4, h5⟩ := bdB_parts hb
  cases hi <;> simp [fitB, inB, endR] <;> omega
/-- A bed, and a slope, with more water. -/
def wetBd (m : Int) (b : Bd) : Bd := { b with wa := ⟨b.wa.lo, mnI 100000 (b.wa.hi + m)⟩ }
def wetS (s : Sd) (m : Int) : Sd := { s with cols := s.cols.map fun l => l.map (wetBd m) }
theorem wet_bd {m : Int} {b : Bd} (hm : 0 ≤ m) (h : bdB b = true) : bdB (wetBd m b) = true := by
  unfold bdB at h ⊢
  rw [Bool.and_eq_true] at h ⊢
  refine ⟨h.1, ?_⟩
  have h2 := h.2
  simp only [rgU, Bool.and_eq_true, decide_eq_true_eq] at h2
  have h1 : b.wa.hi ≤ mnI 100000 (b.wa.hi + m) ∧ mnI 100000 (b.wa.hi + m) ≤ 100000 := by unfold mnI; split <;> omega
  show (decide (0 ≤ b.wa.lo) && decide (b.wa.lo ≤ mnI 100000 (b.wa.hi + m)) && decide (mnI 100000 (b.wa.hi + m) ≤ 100000)) = true
  simp only [Bool.and_eq_true, decide_eq_true_eq]
  omega
theorem wet_n (s : Sd) (m : Int) : (wetS s m).n = s.n := by
  unfold Sd.n wetS
  cases s.cols <;> simp
theorem wet_ok {s : Sd} {m : Int} (hm : 0 ≤ m) (h : SdOk s) : SdOk (wetS s m) where
  cols := by have := h.cols; simpa [wetS] using this
  beds := by rw [wet_n]; exact h.beds
  least := h.least
  len l hl := by
    obtain ⟨x, hx, rfl⟩ := List.mem_map.1 hl
    rw [wet_n, List.length_map]
    exact h.len x hx
  bd l hl b hb := by
    obtain ⟨x, hx, rfl⟩ := List.mem_map.1 hl
    obtain ⟨y, hy, rfl⟩ := List.mem_map.1 hb
    exact wet_bd hm (h.bd x hx y hy)
theorem bedAt_map {f : Bd → Bd} {cols : List (List Bd)} {k b : Nat} : bedAt (cols.map fun l => l.map f) k b = (bedAt cols k b).map f := by
  unfold bedAt
  rw [List.getElem?_map]
  cases cols[k]? with
  | none => rfl
  | some l => simp
theorem wet_drive {s : Sd} {m : Int} : dAt (wetS s m) = dAt s := by
  funext k b
  unfold dAt wetS
  rw [bedAt_map]
  cases bedAt s.cols k b <;> rfl
theorem wet_hold {s : Sd} (h : SdOk s) {m m' : Int} (hmm : m ≤ m') (k b : Nat) : hAt false (wetS s m') k b ≤ hAt false (wetS s m) k b := by
  unfold hAt wetS
  rw [bedAt_map, bedAt_map]
  cases hx : bedAt s.cols k b with
  | none => exact Int.le_refl _
  | some x =>
    obtain ⟨l, hl, _, _, hb⟩ := bedAt_mem hx
    obtain ⟨_, _, h3, _⟩ := bdB_parts (h.bd l hl x hb)
    have e : holdsN (wetBd m' x) (endR false (wetBd m' x)) ≤ holdsN (wetBd m x) (endR false (wetBd m x)) := by
      have e1 : ∀ z, holdsN (wetBd m' x) z = holdsN (wetBd m x) z := fun _ => rfl
      rw [e1]
      refine holds_mono (by simp [endR, wetBd]; omega) (by simp [endR, wetBd]) (by simp [endR, wetBd]) ?_
      simp only [endR, wetBd, mnI, Bool.false_eq_true, if_false]
      split <;> split <;> omega
    exact e
theorem wet_zero {s : Sd} (h : SdOk s) : wetS s 0 = s := by
  obtain ⟨cols, least⟩ := s
  unfold wetS
  congr 1
  have : ∀ l ∈ cols, l.map (wetBd 0) = l := fun l hl => by
    have : ∀ b ∈ l, wetBd 0 b = b := fun b hb => by
      obtain ⟨_, _, _, _, h5⟩ := bdB_parts (h.bd l hl b hb)
      obtain ⟨d, n, fr, co, wa⟩ := b
      obtain ⟨lo, hi⟩ := wa
      have e : mnI 100000 hi = hi := by
        dsimp only at h5
        unfold mnI
        split <;> omega
      simp only [wetBd, Int.add_zero, e]
    exact (List.map_congr_left this).trans (List.map_id l)
  exact (List.map_congr_left this).trans (List.map_id cols)

end Go.Proofs.Ytkenokpobbichaa
