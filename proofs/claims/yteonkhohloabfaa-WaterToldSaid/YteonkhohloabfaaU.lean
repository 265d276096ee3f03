/- Least: the least pump. -/
import Derived.Test.YteonkhohloabfaaT
namespace Go.Proofs.Yteonkhohloabfaa
open Go.RowKit

set_option maxRecDepth 100000 in
set_option maxHeartbeats 1000000 in
theorem least_err (g : Gnd) (A : Option Addr) (ap : Nat) (days : List Day) (D : Option Addr) (dp : Nat) (cell level : Int) (w : World) (hn : g.cells.length ≤ 1000) (hm : days.length ≤ 1000) (hc : Row cellL 7 w w.heap.size A g.cells) (hd : Row dayL 3 w w.heap.size D days) (hf : askedN g days cell level ≠ 0) :
    Calls Try.prog 24 #[gndV A ap g, .slice D days.length dp, .int .i64 cell, .int .i64 level] w fun e w' => e = .returned (.tuple #[.int .i64 0, .int .i64 (askedN g days cell level)]) ∧ Below w.heap.size w w' := by
  have hck := asked_any g A ap days D dp cell level _ hn hm (row_alloc (row_alloc (row_alloc (row_alloc hc (.cells (gndC A ap g) 38)) (.cells #[.slice D days.length dp] 40)) (.cells #[.int .i64 cell] 3)) (.cells #[.int .i64 level] 3)) (row_alloc (row_alloc (row_alloc (row_alloc hd _) _) _) _)
  have HK := Lib.hid hck
  have hfb : (askedN g days cell level != 0) = true := by simpa using hf
  clear hck hf hc hd
  go_enter Try.func24, Try.ntmps24
  go_wp2_with (go_at_call 59; refine (HK.out).mono ?_; rintro e w1 ⟨rfl, hb⟩; have hB := below_step ((((((Below.refl w.heap.size w).alloc (Nat.le_refl _) _).alloc (by simp) _).alloc (by simp; omega) _).alloc (by simp; omega) _)) hb (by simp; omega))
  go_ret2
  exact ⟨rfl, hB⟩

/-- The boxes of Least. -/
structure LeA (w : World) (gcs : Array Value) (v1 v2 v3 : Value) (W : World) : Prop where
  b0 : Whole W w.heap.size 38 gcs
  b1 : Whole W (w.heap.size + 1) 40 #[v1]
  b2 : Whole W (w.heap.size + 1 + 1) 3 #[v2]
  b3 : Whole W (w.heap.size + 1 + 1 + 1) 3 #[v3]
  below : Below w.heap.size w W
theorem LeA.made (w : World) (gcs : Array Value) (v1 v2 v3 : Value) : LeA w gcs v1 v2 v3 ((((w.alloc (.cells gcs 38)).alloc (.cells #[v1] 40)).alloc (.cells #[v2] 3)).alloc (.cells #[v3] 3)) := by
  refine ⟨?_, ?_, ?_, ?_, ((((Below.refl _ _).alloc (Nat.le_refl _) _).alloc (by simp) _).alloc (by simp; omega) _).alloc (by simp; omega) _⟩
  · (simp only [Whole, heap_if, World.size_alloc]; (repeat rw [if_neg (by omega)]); rfl)
  · (simp only [Whole, heap_if, World.size_alloc]; (repeat rw [if_neg (by omega)]); rfl)
  · (simp only [Whole, heap_if, World.size_alloc]; (repeat rw [if_neg (by omega)]); rfl)
  · (simp only [Whole, heap_if, World.size_alloc]; (repeat rw [if_neg (by omega)]); rfl)
theorem LeA.later {w : World} {gcs : Array Value} {v1 v2 v3 : Value} {W W' : World} (h : LeA w gcs v1 v2 v3 W) (hb : Below W.heap.size W W') : LeA w gcs v1 v2 v3 W' :=
  ⟨h.b0.below hb h.b0.lt, h.b1.below hb h.b1.lt, h.b2.below hb h.b2.lt, h.b3.below hb h.b3.lt, below_next h.below hb⟩
theorem Try.info99 : (Try.prog.info? 99).map (fun i => (i.zero, i.size, i.bytes)) = some (some (.agg #[.int .i64 0, .int .i64 0, .int .i64 0, .int .i64 0, .int .i64 0, .int .i64 0, .int .i64 0]), 7, 56) := by kernel_rfl
theorem flat_get {α : Type} {enc : α → List Value} {s : Nat} (hs : 0 < s) (he : ∀ x, (enc x).length = s) : ∀ (l : List α) (j : Nat) (u : Value), (l.flatMap enc)[j]? = some u → ∃ x, l[j / s]? = some x ∧ (enc x)[j % s]? = some u
  | [], j, u, h => by simp at h
  | y :: l, j, u, h => by
    simp only [List.flatMap_cons] at h
    rcases Nat.lt_or_ge j s with hj | hj
    · rw [List.getElem?_append_left (by rw [he]; exact hj)] at h
      exact ⟨y, by rw [Nat.div_eq_of_lt hj]; rfl, by rw [Nat.mod_eq_of_lt hj]; exact h⟩
    · rw [List.getElem?_append_right (by rw [he]; exact hj), he] at h
      obtain ⟨x, h1, h2⟩ := flat_get hs he l (j - s) u h
      refine ⟨x, ?_, ?_⟩
      · rw [show j / s = (j - s) / s + 1 by rw [← Nat.sub_add_cancel hj, Nat.add_div_right _ hs]; simp]
        simpa using h1
      · rw [← Nat.mod_eq_sub_mod hj] at h2
        exact h2
theorem row_news {α : Type} {enc : α → List Value} {s B : Nat} (hs : 0 < s) (he : ∀ x, (enc x).length = s) {w : World} {b off : Nat} {l : List α} (h : Row enc s w B (some ⟨b, off, none⟩) l) : ∀ j u, (l.flatMap enc)[j]? = some u → w.cell? ((⟨b, off, none⟩ : Addr).add j) = some u := by
  intro j u hu
  obtain ⟨x, h1, h2⟩ := flat_get hs he l j u hu
  obtain ⟨b', off', e, _, hc⟩ := h (ne_nil_of_get h1)
  injection e with e
  injection e with e1 e2
  subst e1
  subst e2
  rw [add_row]
  have := hc (j / s) x h1 (j % s) u h2
  rw [show off + j / s * s + j % s = off + j by have := Nat.div_add_mod j s; rw [Nat.mul_comm] at this; omega] at this
  exact this
theorem flat_len {α : Type} {enc : α → List Value} {s : Nat} (he : ∀ x, (enc x).length = s) (l : List α) : (l.flatMap enc).length = l.length * s := by
  induction l with
  | nil => simp
  | cons y l ih => simp only [List.flatMap_cons, List.length_append, ih, he, List.length_cons]; rw [Nat.add_mul]; omega
theorem flat_one (l : List Cell) : ∀ u ∈ l.flatMap cellL, u.oneCell' = true := by
  intro u hu
  obtain ⟨c, _, hc⟩ := List.mem_flatMap.1 hu
  simp only [List.mem_cons, List.not_mem_nil, or_false] at hc
  rcases hc with rfl | rfl | rfl | rfl | rfl | rfl | rfl <;> rfl
theorem asked_zero {g : Gnd} {days : List Day} {cell level : Int} (h : askedN g days cell level = 0) : faultN g days = 0 ∧ 0 ≤ cell ∧ cell < g.cells.length ∧ 0 ≤ level ∧ level ≤ 100000 := by
  unfold askedN at h
  by_cases hf : faultN g days = 0
  · rw [if_pos hf] at h
    cases h1 : inB cell 0 ((g.cells.length : Int) - 1)
    · rw [h1] at h; simp at h
    · rw [h1] at h
      cases h2 : inB level 0 100000
      · rw [h2] at h; simp at h
      · simp only [inB, Bool.and_eq_true, decide_eq_true_eq] at h1 h2
        exact ⟨hf, by omega, by omega, by omega, by omega⟩
  · rw [if_neg hf] at h; exact absurd h hf
theorem fault_cells {g : Gnd} {days : List Day} (h : faultN g days = 0) : 1 ≤ g.cells.length ∧ g.cells.length ≤ 8 := by
  obtain ⟨h1, _⟩ := fault_zero h
  simp only [gndB, Bool.and_eq_true, inB, decide_eq_true_eq] at h1
  omega
theorem noSelf_set (l : List Cell) : ∀ (k i : Nat) (c' : Cell), (∀ c, l[k]? = some c → c'.to = c.to) → noSelf (l.set k c') i = noSelf l i := by
  induction l with
  | nil => intro k i c' _; rfl
  | cons c l ih =>
    intro k i c' h
    cases k with
    | zero => simp only [List.set_cons_zero, noSelf, h c rfl]
    | succ k => simp only [List.set_cons_succ, noSelf]; rw [ih k (i + 1) c' (fun x hx => h x (by simpa using hx))]
theorem gndB_pump {g : Gnd} (h : gndB g = true) (cell : Nat) {p : Int} (h0 : 0 ≤ p) (h1 : p ≤ 100000) : gndB (withPump g cell p) = true := by
  rcases Nat.lt_or_ge cell g.cells.length with hc | hc
  · simp only [gndB, Bool.and_eq_true] at h ⊢
    obtain ⟨⟨⟨⟨⟨a1, a2⟩, a3⟩, a4⟩, a5⟩, a6⟩ := h
    have hl := withPump_len g cell p
    rw [hl]
    refine ⟨⟨⟨⟨⟨a1, ?_⟩, a3⟩, a4⟩, a5⟩, ?_⟩
    · rw [List.all_eq_true] at a2 ⊢
      intro x hx
      rcases List.mem_or_eq_of_mem_set hx with hx | rfl
      · exact a2 x hx
      · have := a2 (cAt g.cells cell) (by simp [cAt, hc])
        simp only [cellB, Bool.and_eq_true] at this ⊢
        obtain ⟨⟨⟨⟨⟨b1, b2⟩, b3⟩, b4⟩, b5⟩, b6⟩ := this
        exact ⟨⟨⟨⟨⟨b1, b2⟩, b3⟩, b4⟩, b5⟩, by simp [inB, h0, h1]⟩
    · show noSelf (g.cells.set cell _) 0 = true
      rw [noSelf_set _ _ _ _ (fun c hx => by simp [cAt, hx]), a6]
  · unfold withPump
    rw [List.set_eq_of_length_le hc]
    exact h
theorem fault_pump {g : Gnd} {days : List Day} (h : faultN g days = 0) (cell : Nat) {p : Int} (h0 : 0 ≤ p) (h1 : p ≤ 100000) : faultN (withPump g cell p) days = 0 := by
  unfold faultN at h ⊢
  cases hg : gndB g
  · rw [hg] at h; simp at h
  · rw [hg] at h
    rw [gndB_pump hg cell h0 h1]
    exact h

theorem withPump_self (g : Gnd) (cell : Nat) (h : cell < g.cells.length) : withPump g cell (cAt g.cells cell).pump = g := by
  unfold withPump
  have : g.cells.set cell { cAt g.cells cell with pump := (cAt g.cells cell).pump } = g.cells := by
    apply List.ext_getElem?
    intro i
    rw [List.getElem?_set]
    split
    · rename_i e
      subst e
      simp [h, cAt]
    · rfl
  rw [this]
/-- What Least leaves, where it is asked rightly. -/
def leastOut (g : Gnd) (days : List Day) (cell : Nat) (level : Int) (w : World) (e : Ending) (w' : World) : Prop :=
  ∃ n : Int, Halved (keepsB g days cell level) 0 100000 n (n - 1) ∧ e = .returned (.tuple (if 100000 < n then #[.int .i64 0, .int .i64 9] else #[.int .i64 n, .int .i64 0])) ∧ Below w.heap.size w w'

set_option maxRecDepth 100000 in
set_option maxHeartbeats 1000000 in
theorem least_ok (g : Gnd) (A : Option Addr) (ap : Nat) (days : List Day) (D : Option Addr) (dp : Nat) (cell : Nat) (level : Int) (w : World) (hn : g.cells.length ≤ 1000) (hm : days.length ≤ 1000) (hc : Row cellL 7 w w.heap.size A g.cells) (hd : Row dayL 3 w w.heap.size D days) (hf : askedN g days cell level = 0) :
    Calls Try.prog 24 #[gndV A ap g, .slice D days.length dp, .int .i64 cell, .int .i64 level] w (leastOut g days cell level w) := by
  have hck := asked_any g A ap days D dp cell level _ hn hm (row_alloc (row_alloc (row_alloc (row_alloc hc (.cells (gndC A ap g) 38)) (.cells #[.slice D days.length dp] 40)) (.cells #[.int .i64 cell] 3)) (.cells #[.int .i64 level] 3)) (row_alloc (row_alloc (row_alloc (row_alloc hd _) _) _) _)
  rw [hf] at hck
  have HK := Lib.hid hck
  have HC := Lib.hid hc
  have HD := Lib.hid hd
  obtain ⟨hf0, _, hcl, hv0, hv1⟩ := asked_zero hf
  obtain ⟨hn1, hn8⟩ := fault_cells hf0
  have HF := Lib.hid hf0
  have HCL := Lib.hid hcl
  obtain ⟨b0, off0, eA, _, _⟩ := hc (by intro e; rw [e] at hn1; simp at hn1)
  subst eA
  clear hck hf hc hd hf0 hcl
  obtain ⟨i99, hi0, hz0, hz1, hz2⟩ := info_parts Try.info99
  have HI := Lib.hid (And.intro hi0 (And.intro hz0 (And.intro hz1 hz2)))
  clear hi0 hz0 hz1 hz2
  go_enter Try.func24, Try.ntmps24
  go_wp2_with fail
  refine (HK.out).mono ?_
  rintro e w1 ⟨rfl, hb⟩
  have HA : Hid (LeA w (gndC (some ⟨b0, off0, none⟩) ap g) (.slice D days.length dp) (.int .i64 cell) (.int .i64 level) w1) := (LeA.made w _ _ _ _).later hb
  clear hb HK
  have x0 := (HA.out).b0.at 0 (v := .slice (some ⟨b0, off0, none⟩) g.cells.length ap) rfl
  have hz := (HA.out).b3.lt
  have hz0 : w.heap.size < w1.heap.size := by omega
  have HO : Hid ((w1.alloc (.cells #[] 99)).ownsRow w.heap.size 99 7 (.slice (some ⟨w1.heap.size, 0, none⟩) 0 0) 0 []) :=
    ⟨by simp, .inr ⟨w1.heap.size, 0, #[], rfl, by omega, by (simp only [heap_if]; rfl), by omega, by unfold maxLen; omega, rfl, rfl⟩⟩
  have HNW := Lib.hid (row_news (enc := cellL) (s := 7) (by omega) (fun _ => rfl) (row_alloc ((HC.out.below (HA.out).below).more (HA.out).below.size) (.cells #[] 99)))
  obtain ⟨hi0, hz1, hz2, hz3⟩ := HI.out
  go_wp2_with (at_builtin; go_loud ((refine wpList_append_lies _ rfl (.tmp 22) (.tmp 24) 35 rfl w.heap.size 99 i99 (.agg #[.int .i64 0, .int .i64 0, .int .i64 0, .int .i64 0, .int .i64 0, .int .i64 0, .int .i64 0]) 7 56 Try.underlying35 hi0 hz1 hz2 hz3 rfl (by omega) _ 0 [] rfl HO.out ⟨b0, off0, none⟩ g.cells.length ap (g.cells.flatMap cellL) rfl (flat_len (enc := cellL) (s := 7) (fun _ => rfl) g.cells) HNW.out (flat_one _) (by omega) (by unfold maxLen; omega) (by omega) (by simp; omega) (w1.heap.size + 1) (by simp) ?_); intro gg cp w2 hown2 hgrow2 hat2 hlt2; simp only [Nat.zero_add, List.nil_append] at hown2 ⊢; have hb2 : Below w1.heap.size w1 w2 := ((Below.refl w1.heap.size w1).alloc (Nat.le_refl _) _).trans (below_grown hgrow2 (B := w1.heap.size) (fun q e => by have e' : some w1.heap.size = some q := e; injection e' with e'; omega) (by simp)); have HO2 := Lib.hid hown2; have HB2 := Lib.hid hb2; clear hown2 hgrow2 hat2 hlt2 hb2 hi0 hz1 hz2 hz3 HI HNW HO))
  have HL : Hid (LsAt w g cell level days D dp w2.heap.size (w.heap.size + 1 + 1) w.heap.size (w.heap.size + 1) (w.heap.size + 1 + 1 + 1) gg cp (gndC (some ⟨b0, off0, none⟩) ap g) (cAt g.cells cell).pump (w2.alloc (.cells #[.slice (some ⟨gg, 0, none⟩) g.cells.length cp] 35))) := by
    have hb := HB2.out
    have ha := HA.out
    refine ⟨Whole.made w2 35 _, (ha.b2.below hb ha.b2.lt).alloc _, (ha.b0.below hb ha.b0.lt).alloc _, (ha.b1.below hb ha.b1.lt).alloc _, (ha.b3.below hb ha.b3.lt).alloc _, ?_, (below_next ha.below hb).alloc (below_next ha.below hb).size _⟩
    rw [withPump_self g cell (by have := HCL.out; omega)]
    exact own_below HO2.out ((Below.refl _ _).alloc (Nat.le_refl _) _)
  have hp : ∀ n W, (0 : Int) ≤ n → n ≤ 100000 → (∃ pm, LsAt w g cell level days D dp w2.heap.size (w.heap.size + 1 + 1) w.heap.size (w.heap.size + 1) (w.heap.size + 1 + 1 + 1) gg cp (gndC (some ⟨b0, off0, none⟩) ap g) pm W) →
      Calls Try.prog 60 #[.int .i64 n, .pointer (some ⟨w2.heap.size, 0, none⟩), .pointer (some ⟨w.heap.size + 1 + 1, 0, none⟩), .pointer (some ⟨w.heap.size, 0, none⟩), .pointer (some ⟨w.heap.size + 1, 0, none⟩), .pointer (some ⟨w.heap.size + 1 + 1 + 1, 0, none⟩)] W
        fun e W' => e = .returned (.bool (keepsB g days cell level n)) ∧ ∃ pm, LsAt w g cell level days D dp w2.heap.size (w.heap.size + 1 + 1) w.heap.size (w.heap.size + 1) (w.heap.size + 1 + 1 + 1) gg cp (gndC (some ⟨b0, off0, none⟩) ap g) pm W' := by
    rintro n W h0 h1 ⟨pm, hW⟩
    refine (keeps_any w g cell level days D dp w2.heap.size (w.heap.size + 1 + 1) w.heap.size (w.heap.size + 1) (w.heap.size + 1 + 1 + 1) gg cp (some ⟨b0, off0, none⟩) ap pm n W (by have := HCL.out; omega) hv0 hv1 HD.out (fault_pump HF.out cell h0 h1) hW).mono ?_
    rintro e W' ⟨rfl, h⟩
    exact ⟨rfl, n, h⟩
  refine (lowest60 (keepsB g days cell level) 0 100000 _ _ _ _ _ (fun W => ∃ pm, LsAt w g cell level days D dp w2.heap.size (w.heap.size + 1 + 1) w.heap.size (w.heap.size + 1) (w.heap.size + 1 + 1 + 1) gg cp (gndC (some ⟨b0, off0, none⟩) ap g) pm W) _ (by omega) (by omega) (by omega) ⟨_, HL.out⟩ hp).mono ?_
  rintro e w3 ⟨n, rfl, hh, pm, hls⟩
  have HR : Hid (Halved (keepsB g days cell level) 0 100000 n (n - 1) ∧ Below w.heap.size w w3) := ⟨hh, hls.below⟩
  clear hh hls hp HL
  by_cases hgt : 100000 < n
  · go_wp2_with fail
    go_ret2
    exact ⟨n, HR.out.1, by rw [if_pos hgt]; rfl, HR.out.2⟩
  · go_wp2_with fail
    go_ret2
    exact ⟨n, HR.out.1, by rw [if_neg (by omega)]; rfl, HR.out.2⟩
end Go.Proofs.Yteonkhohloabfaa
