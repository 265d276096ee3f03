/- The arguments of the laws, opened: a project, lists of numbers, as plain data in memory. -/
import Derived.Test.YtpnpnfjhjjdmgaaAC
namespace Go.Proofs.Ytpnpnfjhjjdmgaa
open Go.ChangeShapes Go.WideShapes Go.ChangeAt Go.RowKit Go.Deep

theorem Try.own : ownKnob Try.prog.godebug = none := by kernel_rfl
theorem Try.laidOut : laidOutB Try.prog = true := by kernel_rfl
theorem Try.cells3 : Try.prog.cellsOf 3 = 1 := by kernel_rfl
theorem Try.cells4 : Try.prog.cellsOf 4 = 1 := by kernel_rfl
theorem Try.cells65 : Try.prog.cellsOf 65 = 2 := by kernel_rfl
theorem Try.cells61 : Try.prog.cellsOf 61 = 1 := by kernel_rfl
theorem Try.cells63 : Try.prog.cellsOf 63 = 6 := by kernel_rfl
theorem Try.cells60 : Try.prog.cellsOf 60 = 3 := by kernel_rfl
theorem Try.cells22 : Try.prog.cellsOf 22 = 1 := by kernel_rfl
theorem Try.cells23 : Try.prog.cellsOf 23 = 1 := by kernel_rfl
theorem Try.cells24 : Try.prog.cellsOf 24 = 1 := by kernel_rfl
theorem Try.cells25 : Try.prog.cellsOf 25 = 1 := by kernel_rfl
theorem Try.cells27 : Try.prog.cellsOf 27 = 6 := by kernel_rfl

section
variable {H : Type} {enc : TypeId × Value → H} {w : World} {base : Nat} {spare : Nat → Bool} {held : Bool} {fuel : Nat} {cs : List Value} {x : DataW H × List MemPlace}
/-- A slice of elements whose cells are known by their type reads as a list. -/
theorem open_rowP {α : Type} {ec : α → List Value} {Pr : α → Prop} {t e s : Nat} (ht : Try.prog.underlying t = some (.slice e)) (hC : Try.prog.cellsOf e = s) (he : ∀ y, (ec y).length = s) (hs : 0 < s)
    (hel : ∀ {fuel : Nat} {cs : List Value} {x : DataW H × List MemPlace}, DataW.trod enc Try.prog w base spare held fuel e cs = some x → ∃ y, cs = ec y ∧ Pr y)
    (h : DataW.trod enc Try.prog w base spare held fuel t cs = some x) : ∃ (A : Option Addr) (l : List α) (cp : Nat), cs = [.slice A l.length cp] ∧ l.length ≤ maxLen ∧ Row ec s w w.heap.size A l ∧ ∀ y ∈ l, Pr y := by
  rcases open_slice ht h with ⟨rfl, _⟩ | ⟨a, len, cap, m, n, D, Pl, rfl, hb, hl, hm, hmm, _, hi⟩
  · exact ⟨none, [], 0, rfl, Nat.zero_le _, Row.nil _, fun y hy => by simp at hy⟩
  · have hlm : len ≤ m := by rw [hmm]; split <;> omega
    obtain ⟨b, off, sp⟩ := a
    rcases Nat.eq_zero_or_pos len with rfl | hpos
    · exact ⟨_, [], cap, rfl, Nat.zero_le _, Row.nil _, fun y hy => by simp at hy⟩
    · have hex : ∀ i, ∃ y : α, Pr y ∧ (i < len → w.cells? base ((⟨b, off, sp⟩ : Addr).add (i * s)) s = some (ec y)) := by
        intro i
        by_cases hi2 : i < len
        · obtain ⟨cs', hc, ht'⟩ := hi i (by omega)
          obtain ⟨y, rfl, hpy⟩ := hel ht'
          rw [hC] at hc
          exact ⟨y, hpy, fun _ => hc⟩
        · obtain ⟨cs', hc, ht'⟩ := hi 0 (by omega)
          obtain ⟨y, rfl, hpy⟩ := hel ht'
          exact ⟨y, hpy, fun h => absurd h hi2⟩
      obtain ⟨f, hff⟩ := Classical.axiomOfChoice hex
      have hf := fun i => (hff i).2
      have hcell : ∀ i, i < len → ∀ j v, (ec (f i))[j]? = some v → w.cell? (((⟨b, off, sp⟩ : Addr).add (i * s)).add j) = some v := by
        intro i hi2 j v hv
        obtain ⟨_, _, h3⟩ := World.cells?_some (hf i hi2)
        have hj : j < s := by rw [← he (f i)]; exact (List.getElem?_eq_some_iff.1 hv).1
        rw [h3 j hj, hv]
      have hsp : sp = none := by
        obtain ⟨u, hv⟩ := get_of_lt (l := ec (f 0)) (k := 0) (by rw [he]; exact hs)
        have := hcell 0 hpos 0 _ hv
        simp only [Nat.zero_mul, Addr.add, if_true] at this
        unfold World.cell? at this
        cases sp with
        | none => rfl
        | some q =>
          exfalso
          dsimp only at this
          split at this
          · simp at this
          · cases this
      subst hsp
      refine ⟨_, (List.range len).map f, cap, by rw [List.length_map, List.length_range], by rw [List.length_map, List.length_range]; exact Nat.le_trans hl hm, fun _ => ⟨b, off, rfl, ?_, fun k x hk j v hv => ?_⟩, fun y hy => ?_⟩
      · obtain ⟨u, hv⟩ := get_of_lt (l := ec (f 0)) (k := 0) (by rw [he]; exact hs)
        have := World.block_lt_of_cell? w _ (hcell 0 hpos 0 _ hv)
        simpa [Addr.add] using this
      · rw [List.getElem?_map] at hk
        obtain ⟨i, hi3, rfl⟩ := Option.map_eq_some_iff.1 hk
        obtain ⟨hkl, hki⟩ := List.getElem?_eq_some_iff.1 hi3
        rw [List.getElem_range] at hki
        subst hki
        have := hcell k (by simpa using hkl) j v hv
        rw [Go.Deep.add_add, add_row] at this
        rw [Nat.add_assoc]
        exact this
      · obtain ⟨i, _, rfl⟩ := List.mem_map.1 hy
        exact (hff i).1

theorem int_cells (h : DataW.trod enc Try.prog w base spare held fuel 3 cs = some x) : ∃ y : Int, cs = intL y ∧ True := by
  obtain ⟨a, ha, _⟩ := DataW.trod_int Try.underlying3 h
  exact ⟨a, ha, trivial⟩
theorem bool_cells (h : DataW.trod enc Try.prog w base spare held fuel 4 cs = some x) : ∃ y : Bool, cs = boL y ∧ True := by
  obtain ⟨a, ha, _⟩ := DataW.trod_bool Try.underlying4 h
  exact ⟨a, ha, trivial⟩
theorem rg_cells (h : DataW.trod enc Try.prog w base spare held fuel 65 cs = some x) : ∃ y : Rg, cs = rgL y ∧ True := by
  obtain ⟨xs, m, _, _, hlen, hxl, hg⟩ := DataW.trod_struct Try.underlying65 h
  rw [Try.cells65] at hlen
  obtain ⟨c0, c1, rfl⟩ := len2 hlen
  obtain ⟨y0, y1, rfl⟩ := len2 (show xs.length = 2 from hxl)
  have h0 := hg 0 _ rfl
  have h1 := hg 1 _ rfl
  simp [Try.cells3] at h0 h1
  obtain ⟨a, ha, _⟩ := DataW.trod_int Try.underlying3 h0
  obtain ⟨b, hb, _⟩ := DataW.trod_int Try.underlying3 h1
  injection ha with ha
  injection hb with hb
  exact ⟨⟨a, b⟩, by rw [ha, hb], trivial⟩
theorem nd_cells (h : DataW.trod enc Try.prog w base spare held fuel 60 cs = some x) : ∃ y : Nd, cs = ndL y ∧ True := by
  obtain ⟨xs, m, _, _, hlen, hxl, hg⟩ := DataW.trod_struct Try.underlying60 h
  rw [Try.cells60] at hlen
  obtain ⟨c0, c1, c2, rfl⟩ := len3 hlen
  obtain ⟨y0, y1, y2, rfl⟩ := len3 (show xs.length = 3 from hxl)
  have h0 := hg 0 _ rfl
  have h1 := hg 1 _ rfl
  have h2 := hg 2 _ rfl
  simp [Try.cells3] at h0 h1 h2
  obtain ⟨a, ha, _⟩ := DataW.trod_int Try.underlying3 h0
  obtain ⟨b, hb, _⟩ := DataW.trod_int Try.underlying3 h1
  obtain ⟨c, hc, _⟩ := DataW.trod_int Try.underlying3 h2
  injection ha with ha
  injection hb with hb
  injection hc with hc
  exact ⟨⟨a, b, c⟩, by rw [ha, hb, hc], trivial⟩
theorem wk_cells (h : DataW.trod enc Try.prog w base spare held fuel 63 cs = some x) : ∃ y : Wk, cs = wkL y ∧ (y.d.adds.length ≤ maxLen ∧ Row rgL 2 w w.heap.size y.a y.d.adds) := by
  obtain ⟨xs, m, _, _, hlen, hxl, hg⟩ := DataW.trod_struct Try.underlying63 h
  rw [Try.cells63] at hlen
  obtain ⟨c0, c1, c2, c3, c4, c5, rfl⟩ := len6 hlen
  obtain ⟨y0, y1, y2, y3, y4, y5, rfl⟩ := len6 (show xs.length = 6 from hxl)
  have h0 := hg 0 _ rfl
  have h1 := hg 1 _ rfl
  have h2 := hg 2 _ rfl
  have h3 := hg 3 _ rfl
  have h4 := hg 4 _ rfl
  have h5 := hg 5 _ rfl
  simp [Try.cells3, Try.cells61] at h0 h1 h2 h3 h4 h5
  obtain ⟨z0, e0, _⟩ := DataW.trod_int Try.underlying3 h0
  obtain ⟨z1, e1, _⟩ := DataW.trod_int Try.underlying3 h1
  obtain ⟨z2, e2, _⟩ := DataW.trod_int Try.underlying3 h2
  obtain ⟨z3, e3, _⟩ := DataW.trod_int Try.underlying3 h3
  obtain ⟨z4, e4, _⟩ := DataW.trod_int Try.underlying3 h4
  obtain ⟨A, l, cp, e5, hl, hrow, _⟩ := open_rowP (ec := rgL) Try.underlying61 Try.cells65 (fun _ => rfl) (by omega) rg_cells h5
  injection e0 with e0
  injection e1 with e1
  injection e2 with e2
  injection e3 with e3
  injection e4 with e4
  injection e5 with e5
  exact ⟨⟨⟨z0, z1, z2, z3, z4, l⟩, A, cp⟩, by rw [e0, e1, e2, e3, e4, e5], hl, hrow⟩
theorem project_open (h : DataW.trod enc Try.prog w base spare held fuel 27 cs = some x) : ∃ p : Pm, cs = (pmC p).toList ∧ PmOk p w := by
  obtain ⟨xs, m, _, _, hlen, hxl, hg⟩ := DataW.trod_struct Try.underlying27 h
  rw [Try.cells27] at hlen
  obtain ⟨c0, c1, c2, c3, c4, c5, rfl⟩ := len6 hlen
  obtain ⟨y0, y1, y2, y3, y4, y5, rfl⟩ := len6 (show xs.length = 6 from hxl)
  have h0 := hg 0 _ rfl
  have h1 := hg 1 _ rfl
  have h2 := hg 2 _ rfl
  have h3 := hg 3 _ rfl
  have h4 := hg 4 _ rfl
  have h5 := hg 5 _ rfl
  simp [Try.cells3, Try.cells22, Try.cells23, Try.cells24, Try.cells25] at h0 h1 h2 h3 h4 h5
  obtain ⟨z0, e0, _⟩ := DataW.trod_int Try.underlying3 h0
  obtain ⟨z1, e1, _⟩ := DataW.trod_int Try.underlying3 h1
  obtain ⟨wa, ws, wc, e2, _, hws, had⟩ := open_rowP (ec := wkL) Try.underlying22 Try.cells63 (fun _ => rfl) (by omega) wk_cells h2
  obtain ⟨na, ns, nc, e3, _, hns, _⟩ := open_rowP (ec := ndL) Try.underlying23 Try.cells60 (fun _ => rfl) (by omega) nd_cells h3
  obtain ⟨va, vs, vc, e4, _, hvs, _⟩ := open_rowP (ec := boL) Try.underlying24 Try.cells4 (fun _ => rfl) (by omega) bool_cells h4
  obtain ⟨pa, ps, pc, e5, _, hps, _⟩ := open_rowP (ec := intL) Try.underlying25 Try.cells3 (fun _ => rfl) (by omega) int_cells h5
  injection e0 with e0
  injection e1 with e1
  injection e2 with e2
  injection e3 with e3
  injection e4 with e4
  injection e5 with e5
  exact ⟨⟨z0, z1, ws, wa, wc, ns, na, nc, vs, va, vc, ps, pa, pc⟩, by rw [e0, e1, e2, e3, e4, e5], ⟨hws, fun y hy => (had y hy).2, hns, hvs, hps⟩⟩
theorem ints_open (h : DataW.trod enc Try.prog w base spare held fuel 25 cs = some x) : ∃ (D : Option Addr) (l : List Int) (dp : Nat), cs = [.slice D l.length dp] ∧ l.length ≤ maxLen ∧ Row intL 1 w w.heap.size D l := by
  obtain ⟨A, l, cp, e, hl, hr, _⟩ := open_rowP (ec := intL) Try.underlying25 Try.cells3 (fun _ => rfl) (by omega) int_cells h
  exact ⟨A, l, cp, e, hl, hr⟩
end
end Go.Proofs.Ytpnpnfjhjjdmgaa
