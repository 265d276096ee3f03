/- The arguments of the laws, opened: a slope, a surface, lists of numbers, as plain data in memory. -/
import Derived.Test.YtkenokpobbichaaAH
namespace Go.Proofs.Ytkenokpobbichaa
open Go.ChangeShapes Go.WideShapes Go.ChangeAt Go.RowKit Go.Deep

theorem Try.own : ownKnob Try.prog.godebug = none := by kernel_rfl
theorem Try.laidOut : laidOutB Try.prog = true := by kernel_rfl
theorem Try.cells3 : Try.prog.cellsOf 3 = 1 := by kernel_rfl
theorem Try.cells4 : Try.prog.cellsOf 4 = 1 := by kernel_rfl
theorem Try.cells22 : Try.prog.cellsOf 22 = 1 := by kernel_rfl
theorem Try.cells24 : Try.prog.cellsOf 24 = 2 := by kernel_rfl
theorem Try.cells25 : Try.prog.cellsOf 25 = 1 := by kernel_rfl
theorem Try.cells27 : Try.prog.cellsOf 27 = 2 := by kernel_rfl
theorem Try.cells42 : Try.prog.cellsOf 42 = 2 := by kernel_rfl
theorem Try.cells66 : Try.prog.cellsOf 66 = 1 := by kernel_rfl
theorem Try.cells69 : Try.prog.cellsOf 69 = 8 := by kernel_rfl
theorem len8 {α : Type} {l : List α} (h : l.length = 8) : ∃ a b c d e f g i, l = [a, b, c, d, e, f, g, i] := by
  match l, h with
  | [a, b, c, d, e, f, g, i], _ => exact ⟨a, b, c, d, e, f, g, i, rfl⟩
theorem len5 {α : Type} {l : List α} (h : l.length = 5) : ∃ a b c d e, l = [a, b, c, d, e] := by
  match l, h with
  | [a, b, c, d, e], _ => exact ⟨a, b, c, d, e, rfl⟩

section
variable {H : Type} {enc : TypeId × Value → H} {w : World} {base : Nat} {spare : Nat → Bool} {held : Bool} {fuel : Nat} {cs : List Value} {x : DataW H × List MemPlace}
/-- A slice of elements whose cells are known by their type reads as a list. -/
theorem open_rowP {α : Type} {ec : α → List Value} {Pr : α → Prop} {t e s : Nat} (ht : Try.prog.underlying t = some (.slice e)) (hC : Try.prog.cellsOf e = s) (he : ∀ y, (ec y).length = s) (hs : 0 < s)
    (hel : ∀ {fuel : Nat} {cs : List Value} {x : DataW H × List MemPlace}, DataW.trod enc Try.prog w base spare held fuel e cs = some x → ∃ y, cs = ec y ∧ Pr y)
    (h : DataW.trod enc Try.prog w base spare held fuel t cs = some x) : ∃ (A : Option Addr) (l : List α) (cp : Nat), cs = [.slice A l.length cp] ∧ l.length ≤ maxLen ∧ Row ec s w w.heap.size A l ∧ ∀ y ∈ l, Pr y := by
  rcases open_slice ht h with ⟨rfl, _⟩ | ⟨a, len, cap, m, n, D, Pl, rfl, hb, hl, hm, hmm, _, hi⟩
  · exact ⟨none, [], 0, rfl, Nat.zero_le _, Row.nil _, fun y hy => by simp at hy⟩
  · have hlm : len ≤ m := by rw [hmm]; split <;> omega
    obtain ⟨b, off, sp⟩ := a
    rcases Nat.eq_zero_or_pos len with rfl | hpos
    · exact ⟨_, [], cap, rfl, Nat.zero_le _, Row.nil _, fun y hy => by simp at hy⟩
    · have hex : ∀ i, ∃ y : α, Pr y ∧ (i < len → w.cells? base ((⟨b, off, sp⟩ : Addr).add (i * s)) s = some (ec y)) := by
        intro i
        by_cases hi2 : i < len
        · obtain ⟨cs', hc, ht'⟩ := hi i (by omega)
          obtain ⟨y, rfl, hpy⟩ := hel ht'
          rw [hC] at hc
          exact ⟨y, hpy, fun _ => hc⟩
        · obtain ⟨cs', hc, ht'⟩ := hi 0 (by omega)
          obtain ⟨y, rfl, hpy⟩ := hel ht'
          exact ⟨y, hpy, fun h => absurd h hi2⟩
      obtain ⟨f, hff⟩ := Classical.axiomOfChoice hex
      have hf := fun i => (hff i).2
      have hcell : ∀ i, i < len → ∀ j v, (ec (f i))[j]? = some v → w.cell? (((⟨b, off, sp⟩ : Addr).add (i * s)).add j) = some v := by
        intro i hi2 j v hv
        obtain ⟨_, _, h3⟩ := World.cells?_some (hf i hi2)
        have hj : j < s := by rw [← he (f i)]; exact (List.getElem?_eq_some_iff.1 hv).1
        rw [h3 j hj, hv]
      have hsp : sp = none := by
        obtain ⟨u, hv⟩ := get_of_lt (l := ec (f 0)) (k := 0) (by rw [he]; exact hs)
        have := hcell 0 hpos 0 _ hv
        simp only [Nat.zero_mul, Addr.add, if_true] at this
        unfold World.cell? at this
        cases sp with
        | none => rfl
        | some q =>
          exfalso
          dsimp only at this
          split at this
          · simp at this
          · cases this
      subst hsp
      refine ⟨_, (List.range len).map f, cap, by rw [List.length_map, List.length_range], by rw [List.length_map, List.length_range]; exact Nat.le_trans hl hm, fun _ => ⟨b, off, rfl, ?_, fun k x hk j v hv => ?_⟩, fun y hy => ?_⟩
      · obtain ⟨u, hv⟩ := get_of_lt (l := ec (f 0)) (k := 0) (by rw [he]; exact hs)
        have := World.block_lt_of_cell? w _ (hcell 0 hpos 0 _ hv)
        simpa [Addr.add] using this
      · rw [List.getElem?_map] at hk
        obtain ⟨i, hi3, rfl⟩ := Option.map_eq_some_iff.1 hk
        obtain ⟨hkl, hki⟩ := List.getElem?_eq_some_iff.1 hi3
        rw [List.getElem_range] at hki
        subst hki
        have := hcell k (by simpa using hkl) j v hv
        rw [Go.Deep.add_add, add_row] at this
        rw [Nat.add_assoc]
        exact this
      · obtain ⟨i, _, rfl⟩ := List.mem_map.1 hy
        exact (hff i).1

theorem int_cells (h : DataW.trod enc Try.prog w base spare held fuel 3 cs = some x) : ∃ y : Int, cs = intL y ∧ True := by
  obtain ⟨a, ha, _⟩ := DataW.trod_int Try.underlying3 h
  exact ⟨a, ha, trivial⟩
theorem rg_cells (h : DataW.trod enc Try.prog w base spare held fuel 42 cs = some x) : ∃ y : Rg, cs = rgL y ∧ True := by
  obtain ⟨xs, m, _, _, hlen, hxl, hg⟩ := DataW.trod_struct Try.underlying42 h
  rw [Try.cells42] at hlen
  obtain ⟨c0, c1, rfl⟩ := len2 hlen
  obtain ⟨y0, y1, rfl⟩ := len2 (show xs.length = 2 from hxl)
  have h0 := hg 0 _ rfl
  have h1 := hg 1 _ rfl
  simp [Try.cells3] at h0 h1
  obtain ⟨a, ha, _⟩ := DataW.trod_int Try.underlying3 h0
  obtain ⟨b, hb, _⟩ := DataW.trod_int Try.underlying3 h1
  injection ha with ha
  injection hb with hb
  exact ⟨⟨a, b⟩, by rw [ha, hb], trivial⟩
theorem bd_cells (h : DataW.trod enc Try.prog w base spare held fuel 69 cs = some x) : ∃ y : Bd, cs = bdL y ∧ True := by
  obtain ⟨xs, m, _, _, hlen, hxl, hg⟩ := DataW.trod_struct Try.underlying69 h
  rw [Try.cells69] at hlen
  obtain ⟨c0, c1, c2, c3, c4, c5, c6, c7, rfl⟩ := len8 hlen
  obtain ⟨y0, y1, y2, y3, y4, rfl⟩ := len5 (show xs.length = 5 from hxl)
  have h0 := hg 0 _ rfl
  have h1 := hg 1 _ rfl
  have h2 := hg 2 _ rfl
  have h3 := hg 3 _ rfl
  have h4 := hg 4 _ rfl
  simp [Try.cells3, Try.cells42] at h0 h1 h2 h3 h4
  obtain ⟨a, ha, _⟩ := DataW.trod_int Try.underlying3 h0
  obtain ⟨b, hb, _⟩ := DataW.trod_int Try.underlying3 h1
  obtain ⟨r2, hr2, _⟩ := rg_cells h2
  obtain ⟨r3, hr3, _⟩ := rg_cells h3
  obtain ⟨r4, hr4, _⟩ := rg_cells h4
  injection ha with ha
  injection hb with hb
  simp only [rgL, List.cons.injEq, and_true] at hr2 hr3 hr4
  exact ⟨⟨a, b, r2, r3, r4⟩, by rw [ha, hb, hr2.1, hr2.2, hr3.1, hr3.2, hr4.1, hr4.2], trivial⟩
theorem col_cells (h : DataW.trod enc Try.prog w base spare held fuel 66 cs = some x) : ∃ y : Cl, cs = clL y ∧ (y.beds.length ≤ maxLen ∧ Row bdL 8 w w.heap.size y.a y.beds) := by
  obtain ⟨A, l, cp, e, hl, hr, _⟩ := open_rowP (ec := bdL) Try.underlying66 Try.cells69 (fun _ => rfl) (by omega) bd_cells h
  exact ⟨⟨l, A, cp⟩, e, hl, hr⟩
theorem slope_open (h : DataW.trod enc Try.prog w base spare held fuel 24 cs = some x) : ∃ s : Sm, cs = (smC s).toList ∧ SmOk s w := by
  obtain ⟨xs, m, _, _, hlen, hxl, hg⟩ := DataW.trod_struct Try.underlying24 h
  rw [Try.cells24] at hlen
  obtain ⟨c0, c1, rfl⟩ := len2 hlen
  obtain ⟨y0, y1, rfl⟩ := len2 (show xs.length = 2 from hxl)
  have h0 := hg 0 _ rfl
  have h1 := hg 1 _ rfl
  simp [Try.cells3, Try.cells22] at h0 h1
  obtain ⟨A, l, cp, e0, _, hr, hc⟩ := open_rowP (ec := clL) Try.underlying22 Try.cells66 (fun _ => rfl) (by omega) col_cells h0
  obtain ⟨a, e1, _⟩ := DataW.trod_int Try.underlying3 h1
  injection e0 with e0
  injection e1 with e1
  exact ⟨⟨l, A, cp, a⟩, by rw [e0, e1], ⟨hr, fun y hy => (hc y hy).2⟩⟩
theorem ints_open (h : DataW.trod enc Try.prog w base spare held fuel 25 cs = some x) : ∃ (D : Option Addr) (l : List Int) (dp : Nat), cs = [.slice D l.length dp] ∧ l.length ≤ maxLen ∧ Row intL 1 w w.heap.size D l := by
  obtain ⟨A, l, cp, e, hl, hr, _⟩ := open_rowP (ec := intL) Try.underlying25 Try.cells3 (fun _ => rfl) (by omega) int_cells h
  exact ⟨A, l, cp, e, hl, hr⟩
@[go_sem] theorem run_field42 (a b : Value) (w : World) : Sem.run Try.prog (Instr.field 42 (.agg #[a, b]) 0) w = .ok a w := by
  simp [Instr.field, asAgg, part, go_sem]
theorem surface_open (h : DataW.trod enc Try.prog w base spare held fuel 27 cs = some x) : ∃ u : Su, cs = (suC u).toList ∧ SuOk u w := by
  obtain ⟨xs, m, _, _, hlen, hxl, hg⟩ := DataW.trod_struct Try.underlying27 h
  rw [Try.cells27] at hlen
  obtain ⟨c0, c1, rfl⟩ := len2 hlen
  obtain ⟨y0, y1, rfl⟩ := len2 (show xs.length = 2 from hxl)
  have h0 := hg 0 _ rfl
  have h1 := hg 1 _ rfl
  simp [Try.cells3, Try.cells25] at h0 h1
  obtain ⟨a, e0, _⟩ := DataW.trod_int Try.underlying3 h0
  obtain ⟨A, l, cp, e1, _, hr⟩ := ints_open h1
  injection e0 with e0
  injection e1 with e1
  exact ⟨⟨a, l, A, cp⟩, by rw [e0, e1], hr⟩
end

end Go.Proofs.Ytkenokpobbichaa
