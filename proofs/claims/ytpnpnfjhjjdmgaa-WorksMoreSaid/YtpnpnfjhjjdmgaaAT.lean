/- Bytes, words of sixteen bits and a need, as arguments. -/
import Derived.Test.YtpnpnfjhjjdmgaaAD
namespace Go.Proofs.Ytpnpnfjhjjdmgaa
open Go.ChangeShapes Go.WideShapes Go.ChangeAt Go.RowKit Go.Deep

/-- A byte; a word of sixteen bits. -/
structure Byt where
  n : Int
  lo : 0 ≤ n
  hi : n ≤ 255
structure Hlf where
  n : Int
  lo : 0 ≤ n
  hi : n ≤ 65535
abbrev byL (x : Byt) : List Value := [.int .u8 x.n]
abbrev hwL (x : Hlf) : List Value := [.int .u16 x.n]
theorem Try.underlying5 : Try.prog.underlying 5 = some (.int .u8) := by kernel_rfl
theorem Try.underlying58 : Try.prog.underlying 58 = some (.int .u16) := by kernel_rfl
theorem Try.underlying71 : Try.prog.underlying 71 = some (.slice 5) := by kernel_rfl
theorem Try.underlying72 : Try.prog.underlying 72 = some (.slice 58) := by kernel_rfl
theorem Try.cells5 : Try.prog.cellsOf 5 = 1 := by kernel_rfl
theorem Try.cells58 : Try.prog.cellsOf 58 = 1 := by kernel_rfl
section
variable {H : Type} {enc : TypeId × Value → H} {w : World} {base : Nat} {spare : Nat → Bool} {held : Bool} {fuel : Nat} {cs : List Value} {x : DataW H × List MemPlace}
theorem byte_cells (h : DataW.trod enc Try.prog w base spare held fuel 5 cs = some x) : ∃ y : Byt, cs = byL y ∧ True := by
  obtain ⟨z, e, _, hw⟩ := DataW.trod_int Try.underlying5 h
  have hb : 0 ≤ z ∧ z ≤ 255 := by
    simp [Lit.wf] at hw
    exact hw
  exact ⟨⟨z, hb.1, hb.2⟩, e, trivial⟩
theorem half_cells (h : DataW.trod enc Try.prog w base spare held fuel 58 cs = some x) : ∃ y : Hlf, cs = hwL y ∧ True := by
  obtain ⟨z, e, _, hw⟩ := DataW.trod_int Try.underlying58 h
  have hb : 0 ≤ z ∧ z ≤ 65535 := by
    simp [Lit.wf] at hw
    exact hw
  exact ⟨⟨z, hb.1, hb.2⟩, e, trivial⟩
theorem bytes_open (h : DataW.trod enc Try.prog w base spare held fuel 71 cs = some x) : ∃ (D : Option Addr) (l : List Byt) (dp : Nat), cs = [.slice D l.length dp] ∧ l.length ≤ maxLen ∧ Row byL 1 w w.heap.size D l := by
  obtain ⟨A, l, cp, e, hl, hr, _⟩ := open_rowP (ec := byL) Try.underlying71 Try.cells5 (fun _ => rfl) (by omega) byte_cells h
  exact ⟨A, l, cp, e, hl, hr⟩
theorem halves_open (h : DataW.trod enc Try.prog w base spare held fuel 72 cs = some x) : ∃ (D : Option Addr) (l : List Hlf) (dp : Nat), cs = [.slice D l.length dp] ∧ l.length ≤ maxLen ∧ Row hwL 1 w w.heap.size D l := by
  obtain ⟨A, l, cp, e, hl, hr, _⟩ := open_rowP (ec := hwL) Try.underlying72 Try.cells58 (fun _ => rfl) (by omega) half_cells h
  exact ⟨A, l, cp, e, hl, hr⟩
theorem need_open (h : DataW.trod enc Try.prog w base spare held fuel 60 cs = some x) : ∃ n : Nd, cs = ndL n := by
  obtain ⟨n, e, _⟩ := nd_cells h
  exact ⟨n, e⟩
end
theorem row_byte {w : World} {B : Nat} {A : Option Addr} {l : List Byt} (h : Row byL 1 w B A l) {k : Nat} {c : Byt} (hk : l[k]? = some c) :
    ∃ b off, A = some ⟨b, off, none⟩ ∧ b < B ∧ w.cell? ⟨b, off + k, none⟩ = some (.int .u8 c.n) := by
  obtain ⟨b, off, e, hb, hc⟩ := h (ne_nil_of_get hk)
  exact ⟨b, off, e, hb, by simpa using hc k c hk 0 _ rfl⟩
theorem row_half {w : World} {B : Nat} {A : Option Addr} {l : List Hlf} (h : Row hwL 1 w B A l) {k : Nat} {c : Hlf} (hk : l[k]? = some c) :
    ∃ b off, A = some ⟨b, off, none⟩ ∧ b < B ∧ w.cell? ⟨b, off + k, none⟩ = some (.int .u16 c.n) := by
  obtain ⟨b, off, e, hb, hc⟩ := h (ne_nil_of_get hk)
  exact ⟨b, off, e, hb, by simpa using hc k c hk 0 _ rfl⟩
end Go.Proofs.Ytpnpnfjhjjdmgaa
