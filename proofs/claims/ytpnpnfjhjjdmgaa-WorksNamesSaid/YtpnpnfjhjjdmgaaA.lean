/- Shapes of the works layer in memory, and leaf contracts. -/
import Derived.Test.YtpnpnfjhjjdmgaaG
namespace Go.Proofs.Ytpnpnfjhjjdmgaa
open Go.RowKit

structure Rg where
  lo : Int
  hi : Int
/-- A work, as data. -/
structure Wd where
  price : Int
  first : Int
  last : Int
  age : Int
  village : Int
  adds : List Rg
/-- A work, in memory. -/
structure Wk where
  d : Wd
  a : Option Addr
  cp : Nat
structure Nd where
  slope : Int
  year : Int
  due : Int
/-- A project, as data. -/
structure Pj where
  years : Int
  slopes : Int
  works : List Wd
  needs : List Nd
  villages : List Bool
  purses : List Int
/-- A project, in memory. -/
structure Pm where
  years : Int
  slopes : Int
  ws : List Wk
  wa : Option Addr
  wc : Nat
  ns : List Nd
  na : Option Addr
  nc : Nat
  vs : List Bool
  va : Option Addr
  vc : Nat
  ps : List Int
  pa : Option Addr
  pc : Nat
def Pm.pj (p : Pm) : Pj := ⟨p.years, p.slopes, p.ws.map (·.d), p.ns, p.vs, p.ps⟩
abbrev rgL (r : Rg) : List Value := [vi r.lo, vi r.hi]
abbrev rgV (r : Rg) : Value := .agg #[vi r.lo, vi r.hi]
abbrev wkL (x : Wk) : List Value := [vi x.d.price, vi x.d.first, vi x.d.last, vi x.d.age, vi x.d.village, .slice x.a x.d.adds.length x.cp]
abbrev wkV (x : Wk) : Value := .agg #[vi x.d.price, vi x.d.first, vi x.d.last, vi x.d.age, vi x.d.village, .slice x.a x.d.adds.length x.cp]
abbrev wkC (x : Wk) : Array Value := #[vi x.d.price, vi x.d.first, vi x.d.last, vi x.d.age, vi x.d.village, .slice x.a x.d.adds.length x.cp]
abbrev ndL (x : Nd) : List Value := [vi x.slope, vi x.year, vi x.due]
abbrev ndV (x : Nd) : Value := .agg #[vi x.slope, vi x.year, vi x.due]
abbrev boL (b : Bool) : List Value := [.bool b]
abbrev pmC (p : Pm) : Array Value := #[vi p.years, vi p.slopes, .slice p.wa p.ws.length p.wc, .slice p.na p.ns.length p.nc, .slice p.va p.vs.length p.vc, .slice p.pa p.ps.length p.pc]
abbrev pmV (p : Pm) : Value := .agg (pmC p)
/-- A project lies in memory. -/
structure PmOk (p : Pm) (W : World) : Prop where
  ws : Row wkL 6 W W.heap.size p.wa p.ws
  ad : ∀ x ∈ p.ws, Row rgL 2 W W.heap.size x.a x.d.adds
  ns : Row ndL 3 W W.heap.size p.na p.ns
  vs : Row boL 1 W W.heap.size p.va p.vs
  ps : Row intL 1 W W.heap.size p.pa p.ps
theorem PmOk.next {p : Pm} {W W' : World} (h : PmOk p W) (hb : newer W W') : PmOk p W' :=
  ⟨(h.ws.below hb).more hb.size, fun x hx => ((h.ad x hx).below hb).more hb.size, (h.ns.below hb).more hb.size, (h.vs.below hb).more hb.size, (h.ps.below hb).more hb.size⟩
theorem row6 {w : World} {B : Nat} {A : Option Addr} {l : List Wk} (h : Row wkL 6 w B A l) {k : Nat} {c : Wk} (hk : l[k]? = some c) :
    ∃ b off, A = some ⟨b, off, none⟩ ∧ b < B ∧ w.cell? ⟨b, off + k * 6, none⟩ = some (.int .i64 c.d.price) ∧ w.cell? ⟨b, off + k * 6 + 1, none⟩ = some (.int .i64 c.d.first) ∧ w.cell? ⟨b, off + k * 6 + 2, none⟩ = some (.int .i64 c.d.last) ∧
      w.cell? ⟨b, off + k * 6 + 3, none⟩ = some (.int .i64 c.d.age) ∧ w.cell? ⟨b, off + k * 6 + 4, none⟩ = some (.int .i64 c.d.village) ∧ w.cell? ⟨b, off + k * 6 + 5, none⟩ = some (.slice c.a c.d.adds.length c.cp) := by
  obtain ⟨b, off, e, hb, hc⟩ := h (ne_nil_of_get hk)
  exact ⟨b, off, e, hb, hc k c hk 0 _ rfl, hc k c hk 1 _ rfl, hc k c hk 2 _ rfl, hc k c hk 3 _ rfl, hc k c hk 4 _ rfl, hc k c hk 5 _ rfl⟩
theorem row3 {w : World} {B : Nat} {A : Option Addr} {l : List Nd} (h : Row ndL 3 w B A l) {k : Nat} {c : Nd} (hk : l[k]? = some c) :
    ∃ b off, A = some ⟨b, off, none⟩ ∧ b < B ∧ w.cell? ⟨b, off + k * 3, none⟩ = some (.int .i64 c.slope) ∧ w.cell? ⟨b, off + k * 3 + 1, none⟩ = some (.int .i64 c.year) ∧ w.cell? ⟨b, off + k * 3 + 2, none⟩ = some (.int .i64 c.due) := by
  obtain ⟨b, off, e, hb, hc⟩ := h (ne_nil_of_get hk)
  exact ⟨b, off, e, hb, hc k c hk 0 _ rfl, hc k c hk 1 _ rfl, hc k c hk 2 _ rfl⟩
theorem row2 {w : World} {B : Nat} {A : Option Addr} {l : List Rg} (h : Row rgL 2 w B A l) {k : Nat} {c : Rg} (hk : l[k]? = some c) :
    ∃ b off, A = some ⟨b, off, none⟩ ∧ b < B ∧ w.cell? ⟨b, off + k * 2, none⟩ = some (.int .i64 c.lo) ∧ w.cell? ⟨b, off + k * 2 + 1, none⟩ = some (.int .i64 c.hi) := by
  obtain ⟨b, off, e, hb, hc⟩ := h (ne_nil_of_get hk)
  exact ⟨b, off, e, hb, hc k c hk 0 _ rfl, hc k c hk 1 _ rfl⟩
theorem rowB {w : World} {B : Nat} {A : Option Addr} {l : List Bool} (h : Row boL 1 w B A l) {k : Nat} {c : Bool} (hk : l[k]? = some c) :
    ∃ b off, A = some ⟨b, off, none⟩ ∧ b < B ∧ w.cell? ⟨b, off + k, none⟩ = some (.bool c) := by
  obtain ⟨b, off, e, hb, hc⟩ := h (ne_nil_of_get hk)
  exact ⟨b, off, e, hb, by simpa using hc k c hk 0 _ rfl⟩
def rgB (r : Rg) : Bool := decide (0 ≤ r.lo) && decide (r.lo ≤ r.hi) && decide (r.hi ≤ 10000)
def wdB (years slopes : Int) (villages : Nat) (x : Wd) : Bool :=
  inB x.price 1 1000000 && decide (0 ≤ x.first) && decide (x.first ≤ x.last) && decide (x.last < years) && inB x.age 0 1000 && inB x.village (-1) ((villages : Int) - 1) && decide ((x.adds.length : Int) = slopes) && x.adds.all rgB
def ndB (years slopes : Int) (x : Nd) : Bool := inB x.slope 0 (slopes - 1) && inB x.year 0 (years - 1) && inB x.due 1 10000

set_option maxHeartbeats 400000 in
theorem within_any (n lo hi : Int) (w : World) :
    Calls Try.prog 48 #[.int .i64 n, .int .i64 lo, .int .i64 hi] w fun e w' => e = .returned (.bool (inB n lo hi)) ∧ w = w' := by
  by_cases h1 : lo ≤ n <;> by_cases h2 : n ≤ hi <;>
  (go_enter Try.func48, Try.ntmps48
   go_wp2
   go_ret
   exact ⟨by simp [inB, h1, h2], rfl⟩)
set_option maxHeartbeats 400000 in
theorem in_any (n lo hi : Int) (w : World) :
    Calls Try.prog 24 #[.int .i64 n, .int .i64 lo, .int .i64 hi] w fun e w' => e = .returned (.bool (inB n lo hi)) ∧ w = w' := by
  by_cases h1 : lo ≤ n <;> by_cases h2 : n ≤ hi <;>
  (go_enter Try.func24, Try.ntmps24
   go_wp2
   go_ret
   exact ⟨by simp [inB, h1, h2], rfl⟩)
set_option maxHeartbeats 400000 in
theorem span_any (lo hi : Int) (w : World) :
    Calls Try.prog 46 #[.int .i64 lo, .int .i64 hi] w fun e w' => e = .returned (.agg #[.int .i64 lo, .int .i64 hi]) ∧ Below w.heap.size w w' := by
  go_enter Try.func46, Try.ntmps46
  go_wp2
  exact bodyPost_ret (v := .agg #[.int .i64 lo, .int .i64 hi]) (by simp [results, Try.results46, go_sem]) rfl ⟨rfl, (Below.refl _ _).alloc (Nat.le_refl _) _⟩
set_option maxHeartbeats 400000 in
theorem low_any (r : Rg) (w : World) :
    Calls Try.prog 56 #[rgV r] w fun e w' => e = .returned (vi r.lo) ∧ Below w.heap.size w w' := by
  go_enter Try.func56, Try.ntmps56
  go_wp2
  go_ret
  exact ⟨rfl, (Below.refl _ _).alloc (Nat.le_refl _) _⟩
set_option maxHeartbeats 400000 in
theorem high_any (r : Rg) (w : World) :
    Calls Try.prog 57 #[rgV r] w fun e w' => e = .returned (vi r.hi) ∧ Below w.heap.size w w' := by
  go_enter Try.func57, Try.ntmps57
  go_wp2
  go_ret
  exact ⟨rfl, (Below.refl _ _).alloc (Nat.le_refl _) _⟩
set_option maxHeartbeats 400000 in
theorem right_any (r : Rg) (w : World) :
    Calls Try.prog 75 #[rgV r] w fun e w' => e = .returned (.bool (rgB r)) ∧ Below w.heap.size w w' := by
  obtain ⟨lo, hi⟩ := r
  dsimp only [rgV]
  by_cases h1 : 0 ≤ lo
  · by_cases h2 : lo ≤ hi
    · by_cases h3 : hi ≤ 10000
      · go_enter Try.func75, Try.ntmps75
        go_wp2
        go_ret
        exact ⟨ret_bool (by simp [rgB] <;> omega), (Below.refl _ _).alloc (Nat.le_refl _) _⟩
      · go_enter Try.func75, Try.ntmps75
        go_wp2
        go_ret
        exact ⟨ret_bool (by simp [rgB] <;> omega), (Below.refl _ _).alloc (Nat.le_refl _) _⟩
    · go_enter Try.func75, Try.ntmps75
      go_wp2
      go_ret
      exact ⟨ret_bool (by simp [rgB] <;> omega), (Below.refl _ _).alloc (Nat.le_refl _) _⟩
  · go_enter Try.func75, Try.ntmps75
    go_wp2
    go_ret
    exact ⟨ret_bool (by simp [rgB] <;> omega), (Below.refl _ _).alloc (Nat.le_refl _) _⟩
set_option maxHeartbeats 400000 in
theorem purse_any (n : Int) (w : World) :
    Calls Try.prog 47 #[vi n] w fun e w' => e = .returned (.bool (inB n 0 1000000)) ∧ Below w.heap.size w w' := by
  go_enter Try.func47, Try.ntmps47
  go_wp2_with (go_at_call 48; refine (within_any _ _ _ _).mono ?_; rintro e w' ⟨rfl, rfl⟩)
  go_ret
  exact ⟨rfl, Below.refl _ _⟩
set_option maxHeartbeats 400000 in
theorem share_any (n : Int) (w : World) :
    Calls Try.prog 61 #[vi n] w fun e w' => e = .returned (.bool (inB n 0 1000000000)) ∧ Below w.heap.size w w' := by
  go_enter Try.func61, Try.ntmps61
  go_wp2_with (go_at_call 48; refine (within_any _ _ _ _).mono ?_; rintro e w' ⟨rfl, rfl⟩)
  go_ret
  exact ⟨rfl, Below.refl _ _⟩
set_option maxHeartbeats 1000000 in
theorem need_any (p : Pm) (x : Nd) (w : World) (h1 : 0 ≤ p.slopes ∧ p.slopes ≤ 1000) (h2 : 0 ≤ p.years ∧ p.years ≤ 1000) :
    Calls Try.prog 53 #[pmV p, ndV x] w fun e w' => e = .returned (.bool (ndB p.years p.slopes x)) ∧ Below w.heap.size w w' := by
  obtain ⟨years, slopes, ws, wa, wc, ns, na, nc, vs, va, vc, ps, pa, pc⟩ := p
  obtain ⟨slope, year, due⟩ := x
  dsimp only at h1 h2
  unfold ndB
  dsimp only
  have k1 : IntKind.i64.wrap (slopes - 1) = slopes - 1 := IntWalk.i64_in _ (by omega)
  have k2 : IntKind.i64.wrap (years - 1) = years - 1 := IntWalk.i64_in _ (by omega)
  clear h1 h2
  cases q1 : inB slope 0 (slopes - 1)
  case' true => cases q2 : inB year 0 (years - 1)
  case' true.true => cases q3 : inB due 1 10000
  all_goals
    (go_enter Try.func53, Try.ntmps53
     go_wp2_with (go_at_call 48; refine (within_any _ _ _ _).mono ?_; rintro e w' ⟨rfl, rfl⟩)
     go_ret
     exact ⟨by simp, ((Below.refl _ _).alloc (Nat.le_refl _) _).alloc (by simp) _⟩)
end Go.Proofs.Ytpnpnfjhjjdmgaa
