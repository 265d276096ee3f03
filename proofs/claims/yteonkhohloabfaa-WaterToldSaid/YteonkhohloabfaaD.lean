/- A ground on its way: its block in memory, what falls on a day, and sums. -/
import Derived.Test.YteonkhohloabfaaC
import Derived.Deep.QuietTactic
import Derived.BigQuiet
import Derived.Deep.RegionHeld3
import Derived.BigRegion
namespace Go.Proofs.Yteonkhohloabfaa
open Go.RowKit

/-! ## A block that is known whole -/
def Whole (w : World) (g : Nat) (t : TypeId) (cs : Array Value) : Prop := w.heap[g]? = some (.cells cs t (0, 0))
section
variable {w w' : World} {g : Nat} {t : TypeId} {cs : Array Value}
theorem Whole.lt (h : Whole w g t cs) : g < w.heap.size := (Array.getElem?_eq_some_iff.1 h).1
theorem Whole.at (h : Whole w g t cs) (i : Nat) {v : Value} (hv : cs[i]? = some v) : w.cell? ⟨g, i, none⟩ = some v := by
  unfold Whole at h
  simp [World.cell?, h, hv]
theorem Whole.free (h : Whole w g t cs) (i : Nat) : w.frozen? ⟨g, i, none⟩ = false := by
  unfold Whole at h
  simp [World.frozen?, h]
theorem Whole.made (w : World) (t : TypeId) (cs : Array Value) : Whole (w.alloc (.cells cs t)) w.heap.size t cs := by
  show (w.heap.push _)[w.heap.size]? = _
  simp
theorem Whole.same (h : Whole w g t cs) (hs : w'.heap[g]? = w.heap[g]?) : Whole w' g t cs := hs.trans h
theorem Whole.alloc (h : Whole w g t cs) (o : Obj) : Whole (w.alloc o) g t cs := h.same (Below.heap_alloc w o g h.lt)
theorem Whole.set (h : Whole w g t cs) (i : Nat) (u : Value) : Whole (w.setCell ⟨g, i, none⟩ u) g t (cs.setIfInBounds i u) := by
  unfold Whole at h ⊢
  simp [World.setCell, Array.getElem?_modify, h]
theorem Whole.far (h : Whole w g t cs) {p : Addr} (hp : g ≠ p.block) (u : Value) : Whole (w.setCell p u) g t cs := h.same (Below.heap_setCell w p u g hp)
theorem Whole.below {B : Nat} (h : Whole w g t cs) (hb : Below B w w') (hg : g < B) : Whole w' g t cs := h.same (hb.block g hg)
theorem Whole.grown {row : Option Nat} (h : Whole w g t cs) (hb : w.grownBy w' row) (hg : some g ≠ row) : Whole w' g t cs := h.same (hb.block g h.lt hg)
end
theorem grown_refl (w : World) (row : Option Nat) : w.grownBy w row := ⟨rfl, rfl, rfl, Nat.le_refl _, fun _ _ _ => rfl⟩
theorem grown_alloc {a w : World} {row : Option Nat} (h : a.grownBy w row) (o : Obj) : a.grownBy (w.alloc o) row :=
  ⟨h.os, h.tape, h.output, Nat.le_trans h.size (by simp), fun i hi hne => (Below.heap_alloc w o i (Nat.lt_of_lt_of_le hi h.size)).trans (h.block i hi hne)⟩
theorem grown_set {a w : World} {g : Nat} (h : a.grownBy w (some g)) {p : Addr} (hp : p.block = g ∨ a.heap.size ≤ p.block) (u : Value) : a.grownBy (w.setCell p u) (some g) :=
  ⟨h.os, h.tape, h.output, by simpa [World.setCell] using h.size, fun i hi hne => (Below.heap_setCell w p u i (by
    rintro rfl
    rcases hp with hp | hp
    · exact hne (by rw [hp])
    · omega)).trans (h.block i hi hne)⟩
theorem grown_drewN {a w : World} {row : Option Nat} (h : a.grownBy w row) (n : Nat) : a.grownBy (w.drewN n) row := ⟨h.os, h.tape, h.output, h.size, h.block⟩
theorem grown_below {a w w' : World} {row : Option Nat} (h : a.grownBy w row) (hb : Below w.heap.size w w') : a.grownBy w' row :=
  ⟨hb.os.trans h.os, hb.tape.trans h.tape, hb.output.trans h.output, Nat.le_trans h.size hb.size, fun i hi hne => (hb.block i (Nat.lt_of_lt_of_le hi h.size)).trans (h.block i hi hne)⟩
theorem grown_trans {a b c : World} {g : Nat} (h : a.grownBy b (some g)) (k : b.grownBy c (some g)) : a.grownBy c (some g) :=
  ⟨k.os.trans h.os, k.tape.trans h.tape, k.output.trans h.output, Nat.le_trans h.size k.size, fun i hi hne => (k.block i (Nat.lt_of_lt_of_le hi h.size) hne).trans (h.block i hi hne)⟩
theorem below_of_grown {B : Nat} {a w : World} {g : Nat} (h : a.grownBy w (some g)) (hg : B ≤ g) (hB : B ≤ a.heap.size) : Below B a w :=
  ⟨h.os, h.tape, h.output, h.size, fun k hk => h.block k (by omega) (fun e => by injection e; omega)⟩

/-! ## The block of a ground on its way -/
structure Way where
  l : List Cell
  A : Option Addr
  ap : Nat
  slo : Int
  shi : Int
  klo : Int
  khi : Int
  melt : Int
  days : List Day
  D : Option Addr
  dp : Nat
  tsnow : Int
  soak : Int
  levels : List Int
  L : Option Addr
  lp : Nat
  rain : List Int
  R : Option Addr
  rp : Nat

def wayCs (s : Way) (f : Nat → Int) (snow left : Int) : Array Value :=
  #[.slice s.A s.l.length s.ap, vi s.slo, vi s.shi, vi s.klo, vi s.khi, vi s.melt, .slice s.D s.days.length s.dp, vi s.tsnow, vi s.soak, .slice s.L s.levels.length s.lp, .slice s.R s.rain.length s.rp,
    vi (f 0), vi (f 1), vi (f 2), vi (f 3), vi (f 4), vi (f 5), vi (f 6), vi (f 7), vi snow, vi left]

/-- A function turned at one place. -/
def upd (f : Nat → Int) (k : Nat) (x : Int) : Nat → Int := fun i => if i = k then x else f i

theorem lt8 {k : Nat} (h : k < 8) : k = 0 ∨ k = 1 ∨ k = 2 ∨ k = 3 ∨ k = 4 ∨ k = 5 ∨ k = 6 ∨ k = 7 := by omega
theorem wayCs_level (s : Way) (f : Nat → Int) (snow left : Int) {k : Nat} (h : k < 8) : (wayCs s f snow left)[11 + k]? = some (vi (f k)) := by
  rcases lt8 h with rfl | rfl | rfl | rfl | rfl | rfl | rfl | rfl <;> rfl
theorem wayCs_set_level (s : Way) (f : Nat → Int) (snow left : Int) {k : Nat} (h : k < 8) (x : Int) : (wayCs s f snow left).setIfInBounds (11 + k) (vi x) = wayCs s (upd f k x) snow left := by
  rcases lt8 h with rfl | rfl | rfl | rfl | rfl | rfl | rfl | rfl <;> rfl
theorem wayCs_set_snow (s : Way) (f : Nat → Int) (snow left x : Int) : (wayCs s f snow left).setIfInBounds 19 (vi x) = wayCs s f x left := rfl
theorem wayCs_set_left (s : Way) (f : Nat → Int) (snow left x : Int) : (wayCs s f snow left).setIfInBounds 20 (vi x) = wayCs s f snow x := rfl

/-- A ground on its way lies in block b; all that it leads to lies below b. -/
structure OnWay (w : World) (b : Nat) (s : Way) (f : Nat → Int) (snow left : Int) : Prop where
  blk : Whole w b 119 (wayCs s f snow left)
  cells : Row cellL 7 w b s.A s.l
  days : Row dayL 3 w b s.D s.days
  levels : Row intL 1 w b s.L s.levels
  rain : Row intL 1 w b s.R s.rain
theorem OnWay.grown {w w' : World} {b : Nat} {s : Way} {f : Nat → Int} {snow left : Int} {f' : Nat → Int} {snow' left' : Int} (h : OnWay w b s f snow left) (hg : w.grownBy w' (some b)) (hb : Whole w' b 119 (wayCs s f' snow' left')) : OnWay w' b s f' snow' left' := by
  have hB := below_of_grown hg (Nat.le_refl b) (Nat.le_of_lt h.blk.lt)
  exact ⟨hb, h.cells.below hB, h.days.below hB, h.levels.below hB, h.rain.below hB⟩

/-! ## sum of two numbers -/
set_option maxHeartbeats 400000 in
theorem sum2_any (x y : Int) (b : Nat) (w : World) (hx : w.cell? ⟨b, 0, none⟩ = some (.int .i64 x)) (hy : w.cell? ⟨b, 1, none⟩ = some (.int .i64 y)) (x1 : -1000000000 ≤ x) (x2 : x ≤ 1000000000) (y1 : -1000000000 ≤ y) (y2 : y ≤ 1000000000) :
    Calls Try.prog 100 #[.slice (some ⟨b, 0, none⟩) 2 2] w fun e w' => e = .returned (.int .i64 (x + y)) ∧ w = w' := by
  go_enter Try.func100, Try.ntmps100
  go_wp2
  refine wp_loop_rounds 3 ?_
  rw [rounds_succ]
  go_wp2
  rw [rounds_succ]
  go_wp2
  rw [rounds_succ]
  go_wp2
  go_ret
  exact ⟨ret_int (by omega), rfl⟩

set_option maxHeartbeats 1000000 in
theorem fall_cold (s : Way) (f : Nat → Int) (snow left : Int) (day b : Nat) (d : Day) (r : Int) (w : World) (h : OnWay w b s f snow left) (hd : s.days[day]? = some d) (hr : s.rain[day]? = some r)
    (hw : d.warm ≤ 0) (s0 : 0 ≤ snow) (s1 : snow ≤ 1000000000) (r0 : 0 ≤ r) (r1 : r ≤ 1000000) :
    Calls Try.prog 87 #[.pointer (some ⟨b, 0, none⟩), .int .i64 day] w fun e w' => e = .returned (.int .i64 0) ∧ w.grownBy w' (some b) ∧ OnWay w' b s f (snow + r) left := by
  obtain ⟨b2, off, eD, _, _, _, hwarm⟩ := row3 h.days hd
  obtain ⟨b3, off3, eR, _, hrain⟩ := row1 h.rain hr
  have hdl : day < s.days.length := (List.getElem?_eq_some_iff.1 hd).1
  have hrl : day < s.rain.length := (List.getElem?_eq_some_iff.1 hr).1
  have c5 := h.blk.at 5 (v := vi s.melt) rfl
  have c6 := h.blk.at 6 (v := .slice s.D s.days.length s.dp) rfl
  have c10 := h.blk.at 10 (v := .slice s.R s.rain.length s.rp) rfl
  have c19 := h.blk.at 19 (v := vi snow) rfl
  have f19 := h.blk.free 19
  rw [eD] at c6
  rw [eR] at c10
  have H := Lib.hid h
  clear h hd hr eD eR
  go_enter Try.func87, Try.ntmps87
  go_wp2
  go_quiet (fail)
  go_wp2
  go_ret
  have hW := H.out.blk.set 19 (vi (snow + r))
  rw [wayCs_set_snow] at hW
  have hg := grown_drewN (grown_set (p := ⟨b, 19, none⟩) (grown_refl w (some b)) (.inl rfl) (vi (snow + r))) nq
  exact ⟨rfl, hg, H.out.grown hg hW⟩

set_option maxHeartbeats 1000000 in
theorem fall_warm (s : Way) (f : Nat → Int) (snow left : Int) (day b : Nat) (d : Day) (r : Int) (w : World) (h : OnWay w b s f snow left) (hd : s.days[day]? = some d) (hr : s.rain[day]? = some r)
    (hw : 0 < d.warm) (s0 : 0 ≤ snow) (s1 : snow ≤ 1000000000) (r0 : 0 ≤ r) (r1 : r ≤ 1000000) (m0 : 0 ≤ s.melt * d.warm) (m1 : s.melt * d.warm ≤ 1000000) :
    Calls Try.prog 87 #[.pointer (some ⟨b, 0, none⟩), .int .i64 day] w fun e w' => e = .returned (.int .i64 (r + min snow (s.melt * d.warm))) ∧ w.grownBy w' (some b) ∧ OnWay w' b s f (snow - min snow (s.melt * d.warm)) left := by
  obtain ⟨b2, off, eD, _, _, _, hwarm⟩ := row3 h.days hd
  obtain ⟨b3, off3, eR, _, hrain⟩ := row1 h.rain hr
  have hdl : day < s.days.length := (List.getElem?_eq_some_iff.1 hd).1
  have hrl : day < s.rain.length := (List.getElem?_eq_some_iff.1 hr).1
  have c5 := h.blk.at 5 (v := vi s.melt) rfl
  have c6 := h.blk.at 6 (v := .slice s.D s.days.length s.dp) rfl
  have c10 := h.blk.at 10 (v := .slice s.R s.rain.length s.rp) rfl
  have c19 := h.blk.at 19 (v := vi snow) rfl
  have f19 := h.blk.free 19
  rw [eD] at c6
  rw [eR] at c10
  have H := Lib.hid h
  clear h hd hr eD eR
  have hw' : ¬ d.warm ≤ 0 := by omega
  by_cases hle : snow ≤ s.melt * d.warm
  · have e1 : min snow (s.melt * d.warm) = snow := Int.min_eq_left hle
    rw [e1]
    have hW := H.out.blk.set 19 (vi 0)
    rw [wayCs_set_snow] at hW
    have HW := Lib.hid hW
    clear hW e1
    go_enter Try.func87, Try.ntmps87
    go_wp2
    go_quiet (fail)
    go_wp2
    go_quiet (fail)
    go_wp2
    go_ret
    have hg := grown_drewN (grown_set (p := ⟨b, 19, none⟩) (grown_refl w (some b)) (.inl rfl) (vi 0))
    rw [Int.sub_self]
    exact ⟨rfl, hg _, H.out.grown (hg _) HW.out⟩
  · have e1 : min snow (s.melt * d.warm) = s.melt * d.warm := Int.min_eq_right (by omega)
    rw [e1]
    have hW := H.out.blk.set 19 (vi (snow - s.melt * d.warm))
    rw [wayCs_set_snow] at hW
    have HW := Lib.hid hW
    clear hW e1
    go_enter Try.func87, Try.ntmps87
    go_wp2
    go_quiet (fail)
    go_wp2
    go_quiet (fail)
    go_wp2
    go_ret
    have hg := grown_drewN (grown_set (p := ⟨b, 19, none⟩) (grown_refl w (some b)) (.inl rfl) (vi (snow - s.melt * d.warm)))
    exact ⟨rfl, hg _, H.out.grown (hg _) HW.out⟩
end Go.Proofs.Yteonkhohloabfaa
