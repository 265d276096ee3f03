/- The arguments of the laws, opened: a survey, movements, tools, words, as plain data in memory. -/
import Derived.Test.YtpmafnifgegfbaaAH
namespace Go.Proofs.Ytpmafnifgegfbaa
open Go.ChangeShapes Go.WideShapes Go.ChangeAt Go.RowKit Go.Deep

theorem Try.own : ownKnob Try.prog.godebug = none := by kernel_rfl
theorem Try.laidOut : laidOutB Try.prog = true := by kernel_rfl
theorem Try.cells3 : Try.prog.cellsOf 3 = 1 := by kernel_rfl
theorem Try.cells4 : Try.prog.cellsOf 4 = 1 := by kernel_rfl
theorem Try.cells22 : Try.prog.cellsOf 22 = 1 := by kernel_rfl
theorem Try.cells23 : Try.prog.cellsOf 23 = 1 := by kernel_rfl
theorem Try.cells24 : Try.prog.cellsOf 24 = 1 := by kernel_rfl
theorem Try.cells26 : Try.prog.cellsOf 26 = 5 := by kernel_rfl
theorem Try.cells43 : Try.prog.cellsOf 43 = 7 := by kernel_rfl
theorem Try.cells47 : Try.prog.cellsOf 47 = 2 := by kernel_rfl
theorem Try.cells71 : Try.prog.cellsOf 71 = 2 := by kernel_rfl
theorem Try.cells73 : Try.prog.cellsOf 73 = 4 := by kernel_rfl
theorem Try.cells111 : Try.prog.cellsOf 111 = 1 := by kernel_rfl
theorem Try.cells82 : Try.prog.cellsOf 82 = 1 := by kernel_rfl
section
variable {H : Type} {enc : TypeId × Value → H} {w : World} {base : Nat} {spare : Nat → Bool} {held : Bool} {fuel : Nat} {cs : List Value} {x : DataW H × List MemPlace}
/-- A slice of elements whose cells are known by their type reads as a list. -/
theorem open_rowP {α : Type} {ec : α → List Value} {Pr : α → Prop} {t e s : Nat} (ht : Try.prog.underlying t = some (.slice e)) (hC : Try.prog.cellsOf e = s) (he : ∀ y, (ec y).length = s) (hs : 0 < s)
    (hel : ∀ {fuel : Nat} {cs : List Value} {x : DataW H × List MemPlace}, DataW.trod enc Try.prog w base spare held fuel e cs = some x → ∃ y, cs = ec y ∧ Pr y)
    (h : DataW.trod enc Try.prog w base spare held fuel t cs = some x) : ∃ (A : Option Addr) (l : List α) (cp : Nat), cs = [.slice A l.length cp] ∧ l.length ≤ maxLen ∧ Row ec s w w.heap.size A l ∧ ∀ y ∈ l, Pr y := by
  rcases open_slice ht h with ⟨rfl, _⟩ | ⟨a, len, cap, m, n, D, Pl, rfl, hb, hl, hm, hmm, _, hi⟩
  · exact ⟨none, [], 0, rfl, Nat.zero_le _, Row.nil _, fun y hy => by simp at hy⟩
  · have hlm : len ≤ m := by rw [hmm]; split <;> omega
    obtain ⟨b, off, sp⟩ := a
    rcases Nat.eq_zero_or_pos len with rfl | hpos
    · exact ⟨_, [], cap, rfl, Nat.zero_le _, Row.nil _, fun y hy => by simp at hy⟩
    · have hex : ∀ i, ∃ y : α, Pr y ∧ (i < len → w.cells? base ((⟨b, off, sp⟩ : Addr).add (i * s)) s = some (ec y)) := by
        intro i
        by_cases hi2 : i < len
        · obtain ⟨cs', hc, ht'⟩ := hi i (by omega)
          obtain ⟨y, rfl, hpy⟩ := hel ht'
          rw [hC] at hc
          exact ⟨y, hpy, fun _ => hc⟩
        · obtain ⟨cs', hc, ht'⟩ := hi 0 (by omega)
          obtain ⟨y, rfl, hpy⟩ := hel ht'
          exact ⟨y, hpy, fun h => absurd h hi2⟩
      obtain ⟨f, hff⟩ := Classical.axiomOfChoice hex
      have hf := fun i => (hff i).2
      have hcell : ∀ i, i < len → ∀ j v, (ec (f i))[j]? = some v → w.cell? (((⟨b, off, sp⟩ : Addr).add (i * s)).add j) = some v := by
        intro i hi2 j v hv
        obtain ⟨_, _, h3⟩ := World.cells?_some (hf i hi2)
        have hj : j < s := by rw [← he (f i)]; exact (List.getElem?_eq_some_iff.1 hv).1
        rw [h3 j hj, hv]
      have hsp : sp = none := by
        obtain ⟨u, hv⟩ := get_of_lt (l := ec (f 0)) (k := 0) (by rw [he]; exact hs)
        have := hcell 0 hpos 0 _ hv
        simp only [Nat.zero_mul, Addr.add, if_true] at this
        unfold World.cell? at this
        cases sp with
        | none => rfl
        | some q =>
          exfalso
          dsimp only at this
          split at this
          · simp at this
          · cases this
      subst hsp
      refine ⟨_, (List.range len).map f, cap, by rw [List.length_map, List.length_range], by rw [List.length_map, List.length_range]; exact Nat.le_trans hl hm, fun _ => ⟨b, off, rfl, ?_, fun k x hk j v hv => ?_⟩, fun y hy => ?_⟩
      · obtain ⟨u, hv⟩ := get_of_lt (l := ec (f 0)) (k := 0) (by rw [he]; exact hs)
        have := World.block_lt_of_cell? w _ (hcell 0 hpos 0 _ hv)
        simpa [Addr.add] using this
      · rw [List.getElem?_map] at hk
        obtain ⟨i, hi3, rfl⟩ := Option.map_eq_some_iff.1 hk
        obtain ⟨hkl, hki⟩ := List.getElem?_eq_some_iff.1 hi3
        rw [List.getElem_range] at hki
        subst hki
        have := hcell k (by simpa using hkl) j v hv
        rw [Go.Deep.add_add, add_row] at this
        rw [Nat.add_assoc]
        exact this
      · obtain ⟨i, _, rfl⟩ := List.mem_map.1 hy
        exact (hff i).1

theorem int_cells (h : DataW.trod enc Try.prog w base spare held fuel 3 cs = some x) : ∃ y : Int, cs = intL y ∧ True := by
  obtain ⟨a, ha, _⟩ := DataW.trod_int Try.underlying3 h
  exact ⟨a, ha, trivial⟩
theorem rg_cells (h : DataW.trod enc Try.prog w base spare held fuel 71 cs = some x) : ∃ y : Rg, cs = rgL y ∧ True := by
  obtain ⟨xs, m, _, _, hlen, hxl, hg⟩ := DataW.trod_struct Try.underlying71 h
  rw [Try.cells71] at hlen
  obtain ⟨c0, c1, rfl⟩ := len2 hlen
  obtain ⟨y0, y1, rfl⟩ := len2 (show xs.length = 2 from hxl)
  have h0 := hg 0 _ rfl
  have h1 := hg 1 _ rfl
  simp [Try.cells3] at h0 h1
  obtain ⟨z0, e0, _⟩ := DataW.trod_int Try.underlying3 h0
  injection e0 with e0
  obtain ⟨z1, e1, _⟩ := DataW.trod_int Try.underlying3 h1
  injection e1 with e1
  exact ⟨⟨z0, z1⟩, by rw [e0, e1], trivial⟩
theorem mv_cells (h : DataW.trod enc Try.prog w base spare held fuel 47 cs = some x) : ∃ y : Mv, cs = mvL y ∧ True := by
  obtain ⟨xs, m, _, _, hlen, hxl, hg⟩ := DataW.trod_struct Try.underlying47 h
  rw [Try.cells47] at hlen
  obtain ⟨c0, c1, rfl⟩ := len2 hlen
  obtain ⟨y0, y1, rfl⟩ := len2 (show xs.length = 2 from hxl)
  have h0 := hg 0 _ rfl
  have h1 := hg 1 _ rfl
  simp [Try.cells3] at h0 h1
  obtain ⟨z0, e0, _⟩ := DataW.trod_int Try.underlying3 h0
  injection e0 with e0
  obtain ⟨z1, e1, _⟩ := DataW.trod_int Try.underlying3 h1
  injection e1 with e1
  exact ⟨(z0, z1), by rw [e0, e1], trivial⟩
theorem tl_cells (h : DataW.trod enc Try.prog w base spare held fuel 43 cs = some x) : ∃ y : Tl, cs = tlL y ∧ True := by
  obtain ⟨xs, m, _, _, hlen, hxl, hg⟩ := DataW.trod_struct Try.underlying43 h
  rw [Try.cells43] at hlen
  obtain ⟨c0, c1, c2, c3, c4, c5, c6, rfl⟩ := len7 hlen
  obtain ⟨y0, y1, y2, y3, y4, y5, y6, rfl⟩ := len7 (show xs.length = 7 from hxl)
  have h0 := hg 0 _ rfl
  have h1 := hg 1 _ rfl
  have h2 := hg 2 _ rfl
  have h3 := hg 3 _ rfl
  have h4 := hg 4 _ rfl
  have h5 := hg 5 _ rfl
  have h6 := hg 6 _ rfl
  simp [Try.cells3] at h0 h1 h2 h3 h4 h5 h6
  obtain ⟨z0, e0, _⟩ := DataW.trod_int Try.underlying3 h0
  injection e0 with e0
  obtain ⟨z1, e1, _⟩ := DataW.trod_int Try.underlying3 h1
  injection e1 with e1
  obtain ⟨z2, e2, _⟩ := DataW.trod_int Try.underlying3 h2
  injection e2 with e2
  obtain ⟨z3, e3, _⟩ := DataW.trod_int Try.underlying3 h3
  injection e3 with e3
  obtain ⟨z4, e4, _⟩ := DataW.trod_int Try.underlying3 h4
  injection e4 with e4
  obtain ⟨z5, e5, _⟩ := DataW.trod_int Try.underlying3 h5
  injection e5 with e5
  obtain ⟨z6, e6, _⟩ := DataW.trod_int Try.underlying3 h6
  injection e6 with e6
  exact ⟨⟨z0, z1, z2, z3, z4, z5, z6⟩, by rw [e0, e1, e2, e3, e4, e5, e6], trivial⟩
theorem sp_cells (h : DataW.trod enc Try.prog w base spare held fuel 73 cs = some x) : ∃ y : Sp, cs = spL y ∧ True := by
  obtain ⟨xs, m, _, _, hlen, hxl, hg⟩ := DataW.trod_struct Try.underlying73 h
  rw [Try.cells73] at hlen
  obtain ⟨c0, c1, c2, c3, rfl⟩ := len4 hlen
  obtain ⟨y0, y1, rfl⟩ := len2 (show xs.length = 2 from hxl)
  have h0 := hg 0 _ rfl
  have h1 := hg 1 _ rfl
  simp [Try.cells71] at h0 h1
  obtain ⟨r0, e0, _⟩ := rg_cells h0
  obtain ⟨r1, e1, _⟩ := rg_cells h1
  simp only [rgL, List.cons.injEq, and_true] at e0 e1
  exact ⟨⟨r0, r1⟩, by rw [e0.1, e0.2, e1.1, e1.2], trivial⟩
theorem half_cells (h : DataW.trod enc Try.prog w base spare held fuel 111 cs = some x) : ∃ y : Hlf, cs = hwL y ∧ True := by
  obtain ⟨z, e, _, hw⟩ := DataW.trod_int Try.underlying111 h
  have hb : 0 ≤ z ∧ z ≤ 65535 := by
    simp [Lit.wf] at hw
    exact hw
  exact ⟨⟨z, hb.1, hb.2⟩, e, trivial⟩
/-- A small number with a sign. -/
structure Sml where
  n : Int
  lo : -128 ≤ n
  hi : n ≤ 127
abbrev smlL (x : Sml) : List Value := [.int .i8 x.n]
theorem small_cells (h : DataW.trod enc Try.prog w base spare held fuel 82 cs = some x) : ∃ y : Sml, cs = smlL y ∧ True := by
  obtain ⟨z, e, _, hw⟩ := DataW.trod_int Try.underlying82 h
  have hb : -128 ≤ z ∧ z ≤ 127 := by
    simp [Lit.wf] at hw
    exact hw
  exact ⟨⟨z, hb.1, hb.2⟩, e, trivial⟩
theorem row_small {w : World} {B : Nat} {A : Option Addr} {l : List Sml} (h : Row smlL 1 w B A l) {k : Nat} {c : Sml} (hk : l[k]? = some c) :
    ∃ b off, A = some ⟨b, off, none⟩ ∧ b < B ∧ w.cell? ⟨b, off + k, none⟩ = some (.int .i8 c.n) := by
  obtain ⟨b, off, e, hb, hc⟩ := h (ne_nil_of_get hk)
  exact ⟨b, off, e, hb, by simpa using hc k c hk 0 _ rfl⟩
theorem ints_open (h : DataW.trod enc Try.prog w base spare held fuel 24 cs = some x) : ∃ (D : Option Addr) (l : List Int) (dp : Nat), cs = [.slice D l.length dp] ∧ l.length ≤ maxLen ∧ Row intL 1 w w.heap.size D l := by
  obtain ⟨A, l, cp, e, hl, hr, _⟩ := open_rowP (ec := intL) Try.underlying24 Try.cells3 (fun _ => rfl) (by omega) int_cells h
  exact ⟨A, l, cp, e, hl, hr⟩
theorem moves_open (h : DataW.trod enc Try.prog w base spare held fuel 34 cs = some x) : ∃ (D : Option Addr) (l : List Mv) (dp : Nat), cs = [.slice D l.length dp] ∧ l.length ≤ maxLen ∧ Row mvL 2 w w.heap.size D l := by
  obtain ⟨A, l, cp, e, hl, hr, _⟩ := open_rowP (ec := mvL) Try.underlying34 Try.cells47 (fun _ => rfl) (by omega) mv_cells h
  exact ⟨A, l, cp, e, hl, hr⟩
theorem tools_open (h : DataW.trod enc Try.prog w base spare held fuel 23 cs = some x) : ∃ (D : Option Addr) (l : List Tl) (dp : Nat), cs = [.slice D l.length dp] ∧ l.length ≤ maxLen ∧ Row tlL 7 w w.heap.size D l := by
  obtain ⟨A, l, cp, e, hl, hr, _⟩ := open_rowP (ec := tlL) Try.underlying23 Try.cells43 (fun _ => rfl) (by omega) tl_cells h
  exact ⟨A, l, cp, e, hl, hr⟩
theorem spots_open (h : DataW.trod enc Try.prog w base spare held fuel 22 cs = some x) : ∃ (D : Option Addr) (l : List Sp) (dp : Nat), cs = [.slice D l.length dp] ∧ l.length ≤ maxLen ∧ Row spL 4 w w.heap.size D l := by
  obtain ⟨A, l, cp, e, hl, hr, _⟩ := open_rowP (ec := spL) Try.underlying22 Try.cells73 (fun _ => rfl) (by omega) sp_cells h
  exact ⟨A, l, cp, e, hl, hr⟩
theorem halves_open (h : DataW.trod enc Try.prog w base spare held fuel 27 cs = some x) : ∃ (D : Option Addr) (l : List Hlf) (dp : Nat), cs = [.slice D l.length dp] ∧ l.length ≤ maxLen ∧ Row hwL 1 w w.heap.size D l := by
  obtain ⟨A, l, cp, e, hl, hr, _⟩ := open_rowP (ec := hwL) Try.underlying27 Try.cells111 (fun _ => rfl) (by omega) half_cells h
  exact ⟨A, l, cp, e, hl, hr⟩
theorem smalls_open (h : DataW.trod enc Try.prog w base spare held fuel 79 cs = some x) : ∃ (D : Option Addr) (l : List Sml) (dp : Nat), cs = [.slice D l.length dp] ∧ l.length ≤ maxLen ∧ Row smlL 1 w w.heap.size D l := by
  obtain ⟨A, l, cp, e, hl, hr, _⟩ := open_rowP (ec := smlL) Try.underlying79 Try.cells82 (fun _ => rfl) (by omega) small_cells h
  exact ⟨A, l, cp, e, hl, hr⟩
theorem tool_open (h : DataW.trod enc Try.prog w base spare held fuel 43 cs = some x) : ∃ t : Tl, cs = (tlC t).toList := by
  obtain ⟨n, e, _⟩ := tl_cells h
  exact ⟨n, e⟩
theorem survey_open (h : DataW.trod enc Try.prog w base spare held fuel 26 cs = some x) : ∃ y : Sm, cs = (smC y).toList ∧ SmOk y w := by
  obtain ⟨xs, m, _, _, hlen, hxl, hg⟩ := DataW.trod_struct Try.underlying26 h
  rw [Try.cells26] at hlen
  obtain ⟨c0, c1, c2, c3, c4, rfl⟩ := len5 hlen
  obtain ⟨y0, y1, y2, y3, y4, rfl⟩ := len5 (show xs.length = 5 from hxl)
  have h0 := hg 0 _ rfl
  have h1 := hg 1 _ rfl
  have h2 := hg 2 _ rfl
  have h3 := hg 3 _ rfl
  have h4 := hg 4 _ rfl
  simp [Try.cells3, Try.cells22, Try.cells23, Try.cells24] at h0 h1 h2 h3 h4
  obtain ⟨z1, e1, _⟩ := DataW.trod_int Try.underlying3 h1
  injection e1 with e1
  obtain ⟨z3, e3, _⟩ := DataW.trod_int Try.underlying3 h3
  injection e3 with e3
  obtain ⟨sa, sp, sc, e0, _, hsp⟩ := spots_open h0
  obtain ⟨ta, tl, tc, e2, _, htl⟩ := tools_open h2
  obtain ⟨ra, rd, rc, e4, _, hrd⟩ := ints_open h4
  injection e0 with e0
  injection e2 with e2
  injection e4 with e4
  exact ⟨⟨⟨sp, z1, tl, z3, rd⟩, sa, sc, ta, tc, ra, rc⟩, by rw [e0, e1, e2, e3, e4], ⟨hsp, htl, hrd⟩⟩
end

end Go.Proofs.Ytpmafnifgegfbaa
