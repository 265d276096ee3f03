/- The arguments of the laws, opened: a ground, days, a truth, readings, as plain data in memory. -/
import Derived.Test.YteonkhohloabfaaAF
import Derived.ProofKit
import Derived.OpenShut
import Derived.ShutString
import Derived.ChangeOld
import Derived.Below
import Derived.Deep.Slices
namespace Go.Proofs.Yteonkhohloabfaa
open Go.ChangeShapes Go.WideShapes Go.ChangeAt Go.RowKit Go.Deep

theorem Try.own : ownKnob Try.prog.godebug = none := by kernel_rfl
theorem Try.laidOut : laidOutB Try.prog = true := by kernel_rfl
theorem Try.cells3 : Try.prog.cellsOf 3 = 1 := by kernel_rfl
theorem Try.cells22 : Try.prog.cellsOf 22 = 1 := by kernel_rfl
theorem Try.cells24 : Try.prog.cellsOf 24 = 2 := by kernel_rfl
theorem Try.cells26 : Try.prog.cellsOf 26 = 6 := by kernel_rfl
theorem Try.cells74 : Try.prog.cellsOf 74 = 7 := by kernel_rfl
theorem Try.cells122 : Try.prog.cellsOf 122 = 3 := by kernel_rfl

theorem len2 {α : Type} {l : List α} (h : l.length = 2) : ∃ a b, l = [a, b] := by
  match l, h with
  | [a, b], _ => exact ⟨a, b, rfl⟩
theorem len3 {α : Type} {l : List α} (h : l.length = 3) : ∃ a b c, l = [a, b, c] := by
  match l, h with
  | [a, b, c], _ => exact ⟨a, b, c, rfl⟩
theorem len4 {α : Type} {l : List α} (h : l.length = 4) : ∃ a b c d, l = [a, b, c, d] := by
  match l, h with
  | [a, b, c, d], _ => exact ⟨a, b, c, d, rfl⟩
theorem len6 {α : Type} {l : List α} (h : l.length = 6) : ∃ a b c d e f, l = [a, b, c, d, e, f] := by
  match l, h with
  | [a, b, c, d, e, f], _ => exact ⟨a, b, c, d, e, f, rfl⟩
theorem len7 {α : Type} {l : List α} (h : l.length = 7) : ∃ a b c d e f g, l = [a, b, c, d, e, f, g] := by
  match l, h with
  | [a, b, c, d, e, f, g], _ => exact ⟨a, b, c, d, e, f, g, rfl⟩

section
variable {H : Type} {enc : TypeId × Value → H} {w : World} {base : Nat} {spare : Nat → Bool} {held : Bool} {fuel : Nat} {cs : List Value} {x : DataW H × List MemPlace}
theorem range_cells (h : DataW.trod enc Try.prog w base spare held fuel 24 cs = some x) : ∃ a b, cs = [vi a, vi b] := by
  obtain ⟨xs, m, _, _, hlen, hxl, hg⟩ := DataW.trod_struct Try.underlying24 h
  rw [Try.cells24] at hlen
  obtain ⟨c0, c1, rfl⟩ := len2 hlen
  obtain ⟨y0, y1, rfl⟩ := len2 (show xs.length = 2 from hxl)
  have h0 := hg 0 _ rfl
  have h1 := hg 1 _ rfl
  simp [Try.cells3] at h0 h1
  obtain ⟨a, ha, _⟩ := DataW.trod_int Try.underlying3 h0
  obtain ⟨b, hb, _⟩ := DataW.trod_int Try.underlying3 h1
  injection ha with ha
  injection hb with hb
  exact ⟨a, b, by rw [ha, hb]⟩
theorem day_cells (h : DataW.trod enc Try.prog w base spare held fuel 122 cs = some x) : ∃ d : Day, cs = dayL d := by
  obtain ⟨xs, m, _, _, hlen, hxl, hg⟩ := DataW.trod_struct Try.underlying122 h
  rw [Try.cells122] at hlen
  obtain ⟨c0, c1, c2, rfl⟩ := len3 hlen
  obtain ⟨y0, y1, rfl⟩ := len2 (show xs.length = 2 from hxl)
  have h0 := hg 0 _ rfl
  have h1 := hg 1 _ rfl
  simp [Try.cells3, Try.cells24] at h0 h1
  obtain ⟨a, b, hab⟩ := range_cells h0
  obtain ⟨c, hc, _⟩ := DataW.trod_int Try.underlying3 h1
  injection hab with ha hb
  injection hb with hb
  injection hc with hc
  exact ⟨⟨a, b, c⟩, by rw [ha, hb, hc]⟩
theorem cell_cells (h : DataW.trod enc Try.prog w base spare held fuel 74 cs = some x) : ∃ c : Cell, cs = cellL c := by
  obtain ⟨xs, m, _, _, hlen, hxl, hg⟩ := DataW.trod_struct Try.underlying74 h
  rw [Try.cells74] at hlen
  obtain ⟨c0, c1, c2, c3, c4, c5, c6, rfl⟩ := len7 hlen
  obtain ⟨y0, y1, y2, y3, y4, y5, rfl⟩ := len6 (show xs.length = 6 from hxl)
  have h0 := hg 0 _ rfl
  have h1 := hg 1 _ rfl
  have h2 := hg 2 _ rfl
  have h3 := hg 3 _ rfl
  have h4 := hg 4 _ rfl
  have h5 := hg 5 _ rfl
  simp [Try.cells3, Try.cells24] at h0 h1 h2 h3 h4 h5
  obtain ⟨a, b, hab⟩ := range_cells h0
  obtain ⟨z1, e1, _⟩ := DataW.trod_int Try.underlying3 h1
  obtain ⟨z2, e2, _⟩ := DataW.trod_int Try.underlying3 h2
  obtain ⟨z3, e3, _⟩ := DataW.trod_int Try.underlying3 h3
  obtain ⟨z4, e4, _⟩ := DataW.trod_int Try.underlying3 h4
  obtain ⟨z5, e5, _⟩ := DataW.trod_int Try.underlying3 h5
  injection hab with ha hb
  injection hb with hb
  injection e1 with e1
  injection e2 with e2
  injection e3 with e3
  injection e4 with e4
  injection e5 with e5
  exact ⟨⟨a, b, z1, z2, z3, z4, z5⟩, by rw [ha, hb, e1, e2, e3, e4, e5]⟩
/-- A slice of elements whose cells are known by their type reads as a list. -/
theorem open_row {α : Type} {ec : α → List Value} {t e s : Nat} (ht : Try.prog.underlying t = some (.slice e)) (hC : Try.prog.cellsOf e = s) (he : ∀ y, (ec y).length = s) (hs : 0 < s)
    (hel : ∀ {fuel : Nat} {cs : List Value} {x : DataW H × List MemPlace}, DataW.trod enc Try.prog w base spare held fuel e cs = some x → ∃ y, cs = ec y)
    (h : DataW.trod enc Try.prog w base spare held fuel t cs = some x) : ∃ (A : Option Addr) (l : List α) (cp : Nat), cs = [.slice A l.length cp] ∧ l.length ≤ maxLen ∧ Row ec s w w.heap.size A l := by
  rcases open_slice ht h with ⟨rfl, _⟩ | ⟨a, len, cap, m, n, D, Pl, rfl, hb, hl, hm, hmm, _, hi⟩
  · exact ⟨none, [], 0, rfl, Nat.zero_le _, Row.nil _⟩
  · have hlm : len ≤ m := by rw [hmm]; split <;> omega
    obtain ⟨b, off, sp⟩ := a
    rcases Nat.eq_zero_or_pos len with rfl | hpos
    · exact ⟨_, [], cap, rfl, Nat.zero_le _, Row.nil _⟩
    · have hex : ∀ i, ∃ y : α, i < len → w.cells? base ((⟨b, off, sp⟩ : Addr).add (i * s)) s = some (ec y) := by
        intro i
        by_cases hi2 : i < len
        · obtain ⟨cs', hc, ht'⟩ := hi i (by omega)
          obtain ⟨y, rfl⟩ := hel ht'
          rw [hC] at hc
          exact ⟨y, fun _ => hc⟩
        · obtain ⟨cs', hc, ht'⟩ := hi 0 (by omega)
          obtain ⟨y, rfl⟩ := hel ht'
          exact ⟨y, fun h => absurd h hi2⟩
      obtain ⟨f, hf⟩ := Classical.axiomOfChoice hex
      have hcell : ∀ i, i < len → ∀ j v, (ec (f i))[j]? = some v → w.cell? (((⟨b, off, sp⟩ : Addr).add (i * s)).add j) = some v := by
        intro i hi2 j v hv
        obtain ⟨_, _, h3⟩ := World.cells?_some (hf i hi2)
        have hj : j < s := by rw [← he (f i)]; exact (List.getElem?_eq_some_iff.1 hv).1
        rw [h3 j hj, hv]
      have hsp : sp = none := by
        obtain ⟨u, hv⟩ := get_of_lt (l := ec (f 0)) (k := 0) (by rw [he]; exact hs)
        have := hcell 0 hpos 0 _ hv
        simp only [Nat.zero_mul, Addr.add, if_true] at this
        unfold World.cell? at this
        cases sp with
        | none => rfl
        | some q =>
          exfalso
          dsimp only at this
          split at this
          · simp at this
          · cases this
      subst hsp
      refine ⟨_, (List.range len).map f, cap, by rw [List.length_map, List.length_range], by rw [List.length_map, List.length_range]; exact Nat.le_trans hl hm, fun _ => ⟨b, off, rfl, ?_, fun k x hk j v hv => ?_⟩⟩
      · obtain ⟨u, hv⟩ := get_of_lt (l := ec (f 0)) (k := 0) (by rw [he]; exact hs)
        have := World.block_lt_of_cell? w _ (hcell 0 hpos 0 _ hv)
        simpa [Addr.add] using this
      · rw [List.getElem?_map] at hk
        obtain ⟨i, hi3, rfl⟩ := Option.map_eq_some_iff.1 hk
        obtain ⟨hkl, hki⟩ := List.getElem?_eq_some_iff.1 hi3
        rw [List.getElem_range] at hki
        subst hki
        have := hcell k (by simpa using hkl) j v hv
        rw [Go.Deep.add_add, add_row] at this
        rw [Nat.add_assoc]
        exact this
/-- A ground, as it comes in. -/
theorem ground_open (h : DataW.trod enc Try.prog w base spare held fuel 26 cs = some x) : ∃ (g : Gnd) (A : Option Addr) (cp : Nat), cs = [.slice A g.cells.length cp, vi g.slo, vi g.shi, vi g.klo, vi g.khi, vi g.melt] ∧ g.cells.length ≤ maxLen ∧ Row cellL 7 w w.heap.size A g.cells := by
  obtain ⟨xs, m, _, _, hlen, hxl, hg⟩ := DataW.trod_struct Try.underlying26 h
  rw [Try.cells26] at hlen
  obtain ⟨c0, c1, c2, c3, c4, c5, rfl⟩ := len6 hlen
  obtain ⟨y0, y1, y2, y3, rfl⟩ := len4 (show xs.length = 4 from hxl)
  have h0 := hg 0 _ rfl
  have h1 := hg 1 _ rfl
  have h2 := hg 2 _ rfl
  have h3 := hg 3 _ rfl
  simp [Try.cells3, Try.cells24, Try.cells22] at h0 h1 h2 h3
  obtain ⟨A, l, cp, e0, hl, hrow⟩ := open_row (ec := cellL) Try.underlying22 Try.cells74 (fun _ => rfl) (by omega) cell_cells h0
  obtain ⟨a1, b1, e1⟩ := range_cells h1
  obtain ⟨a2, b2, e2⟩ := range_cells h2
  obtain ⟨z3, e3, _⟩ := DataW.trod_int Try.underlying3 h3
  injection e0 with e0
  injection e1 with e1 e1'
  injection e1' with e1'
  injection e2 with e2 e2'
  injection e2' with e2'
  injection e3 with e3
  exact ⟨⟨l, a1, b1, a2, b2, z3⟩, A, cp, by rw [e0, e1, e1', e2, e2', e3], hl, hrow⟩
theorem days_open (h : DataW.trod enc Try.prog w base spare held fuel 27 cs = some x) : ∃ (D : Option Addr) (days : List Day) (dp : Nat), cs = [.slice D days.length dp] ∧ days.length ≤ maxLen ∧ Row dayL 3 w w.heap.size D days :=
  open_row (ec := dayL) Try.underlying27 Try.cells122 (fun _ => rfl) (by omega) day_cells h
end
end Go.Proofs.Yteonkhohloabfaa
