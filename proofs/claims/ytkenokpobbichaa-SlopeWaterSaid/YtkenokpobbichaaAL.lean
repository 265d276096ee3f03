/- Append of many behind a row of one's own; lists of surfaces in memory. -/
import Derived.Test.YtkenokpobbichaaAH
namespace Go.Proofs.Ytkenokpobbichaa
open Go.RowKit Go.Shelf Go.Deep

/-- append of a list, perhaps empty, behind a row of one's own, perhaps none. -/
theorem wp_append_all {α : Type} {enc : α → List Value} {size : Nat} {P : Program} {w : World} {o : Oper} {a : Act} {K : Act → World → Prop} {Q : Exit → Act → World → Prop} (base : Nat) (s x : Operand) (t e : TypeId) (i0 : TypeInfo) (z : Value) (bytes : Nat)
    (ht : P.underlying t = some (.slice e)) (hi0 : P.info? e = some i0) (hz0 : i0.zero = some z) (hz1 : i0.size = size) (hz2 : i0.bytes = bytes) (hzs : z.cells.size = size) (hs0 : 0 < size) (he : ∀ x, (enc x).length = size) (he1 : ∀ x, ∀ u ∈ enc x, u.oneCell' = true)
    (ho : o.op = .call { callee := .builtin .append, args := #[s, x], argTypes := #[t, t] })
    (A : Option Addr) (n c : Nat) (xs : List Value) (hs : a.eval s = .slice A n c) (hown : w.ownsRow base e size (.slice A n c) n xs)
    (l : List α) (A2 : Option Addr) (cp : Nat) (hx : a.eval x = .slice A2 l.length cp) (hr : Row enc size w w.heap.size A2 l) (h63 : n + l.length ≤ maxLen) (hbytes : (n + l.length) * bytes ≤ 140737488355328) (hbase : base ≤ w.heap.size)
    (h : ∀ B c' w', w'.ownsRow base e size (.slice B (n + l.length) c') (n + l.length) (xs ++ l.flatMap enc) → w.grownBy w' (Value.slice A n c).ownBlock → (∀ g, (Value.slice B (n + l.length) c').ownBlock = some g → (Value.slice A n c).ownBlock = some g ∨ g = w.heap.size) → K (a.put o.dst (.slice B (n + l.length) c')) w') : Oper.wp P o a w K Q := by
  rcases Nat.eq_zero_or_pos l.length with h0 | hpos
  · obtain rfl : l = [] := List.eq_nil_of_length_eq_zero h0
    obtain ⟨hroom, _⟩ := own_room hown
    have hrun : (Builtin.append_ #[t, t] o.type #[.slice A n c, .slice A2 0 cp]).run P w = .ok (.slice A n c) w := by
      have hu := run_underlying (P := P) (w := w) ht
      rcases A with _ | ad <;> rcases A2 with _ | ad2 <;> simp [Builtin.append_, hu, sizeOf, typeInfo, hi0, Builtin.lenOf, Builtin.firstCells, loadCells, loadCellsFrom, storeCells, hroom]
    unfold Oper.wp
    simp only [List.length_nil] at hx
    simp [execOp, ho, resolve, invoke, builtin, hs, hx, hrun, Result.andThen]
    exact h A c w (by simpa using hown) (World.grownBy.refl _ _) (fun g hg => .inl hg)
  · obtain ⟨b, off, rfl, hb, hc⟩ := hr (by intro e; rw [e] at hpos; simp at hpos)
    refine wp_append_lies w s x t ho base e i0 z size bytes ht hi0 hz0 hz1 hz2 hzs hs0 (.slice A n c) n xs hs hown ⟨b, off, none⟩ l.length cp (l.flatMap enc) hx (by rw [flat_len (enc := enc) (s := size) he]) (row_news (enc := enc) (s := size) hs0 he hr) (fun u hu => by
      obtain ⟨y, _, hy⟩ := List.mem_flatMap.1 hu
      exact he1 y u hy) hpos h63 hbytes hbase w.heap.size rfl ?_
    intro g cap w' h2 h3 h4 _
    refine h _ _ w' h2 h3 fun g' hg' => ?_
    obtain rfl : g = g' := by simpa [Value.ownBlock] using hg'
    exact h4
theorem row_grown {α : Type} {enc : α → List Value} {s : Nat} {w w' : World} {A : Option Addr} {l : List α} {x : Option Nat} (h : Row enc s w w.heap.size A l) (hg : w.grownBy w' x) (hne : ∀ ad, A = some ad → x ≠ some ad.block) : Row enc s w' w'.heap.size A l := by
  intro hl
  obtain ⟨b, off, rfl, hb, hc⟩ := h hl
  have hk := hg.block b hb (fun e => hne _ rfl e.symm)
  refine ⟨b, off, rfl, Nat.lt_of_lt_of_le hb hg.size, fun i y hy j u hu => ?_⟩
  rw [cell_of_same hk]
  exact hc i y hy j u hu
def suL (u : Su) : List Value := [vi u.frm, .slice u.a u.beds.length u.c]
theorem info_su : (Try.prog.info? 27).map (fun i => (i.zero, i.size, i.bytes)) = some (some (.agg #[vi 0, .slice none 0 0]), 2, 32) := by kernel_rfl
def suK (u : Su) : Int × List Int := (u.frm, u.beds)
def suN (k : Nat) (m : List Nat) : Int × List Int := ((k : Int), m.map fun x : Nat => (x : Int))
/-- Surfaces, each of blocks from B on, or with the row a. -/
structure SfIn (B : Nat) (a : Option Addr) (us : List Su) (W : World) : Prop where
  ok : ∀ x ∈ us, SuOk x W
  ne : ∀ x ∈ us, x.beds ≠ []
  hi : ∀ x ∈ us, ∀ ad, x.a = some ad → B ≤ ad.block ∨ x.a = a
/-- Surfaces behind one another in a row of one's own. -/
structure SfJ (B : Nat) (a : Option Addr) (L : List (Int × List Int)) (us : List Su) (A : Option Addr) (c : Nat) (W : World) : Prop where
  own : W.ownsRow B 27 2 (.slice A us.length c) us.length (us.flatMap suL)
  sin : SfIn B a us W
  far : ∀ x ∈ us, ∀ ad, x.a = some ad → (Value.slice A us.length c).ownBlock ≠ some ad.block
  eq : us.map suK = L
section
variable {B : Nat} {a : Option Addr} {L : List (Int × List Int)} {us : List Su} {A : Option Addr} {c : Nat} {W W' : World}
theorem SfIn.next (h : SfIn B a us W) (hb : newer W W') : SfIn B a us W' := ⟨fun x hx => (h.ok x hx).next hb, h.ne, h.hi⟩
theorem SfJ.next (h : SfJ B a L us A c W) (hb : newer W W') : SfJ B a L us A c W' := ⟨own_below h.own hb, h.sin.next hb, h.far, h.eq⟩
theorem SfJ.none (B : Nat) (a : Option Addr) (W : World) : SfJ B a [] [] none 0 W := ⟨⟨rfl, .inl ⟨rfl, rfl⟩⟩, ⟨fun x hx => by simp at hx, fun x hx => by simp at hx, fun x hx => by simp at hx⟩, fun x hx => by simp at hx, rfl⟩
/-- More surfaces behind. -/
theorem SfJ.app (h : SfJ B a L us A c W) {vs : List Su} (hv : SfIn B a vs W) (hf : ∀ x ∈ vs, ∀ ad, x.a = some ad → (Value.slice A us.length c).ownBlock ≠ some ad.block) {A' : Option Addr} {c' : Nat}
    (hown : W'.ownsRow B 27 2 (.slice A' (us.length + vs.length) c') (us.length + vs.length) (us.flatMap suL ++ vs.flatMap suL)) (hg : W.grownBy W' (Value.slice A us.length c).ownBlock)
    (hat : ∀ g, (Value.slice A' (us.length + vs.length) c').ownBlock = some g → (Value.slice A us.length c).ownBlock = some g ∨ g = W.heap.size) : SfJ B a (L ++ vs.map suK) (us ++ vs) A' c' W' := by
  have hall : ∀ x ∈ us ++ vs, SuOk x W ∧ x.beds ≠ [] ∧ ∀ ad, x.a = some ad → (Value.slice A us.length c).ownBlock ≠ some ad.block := fun x hx => by
    rcases List.mem_append.1 hx with hx | hx
    · exact ⟨h.sin.ok x hx, h.sin.ne x hx, h.far x hx⟩
    · exact ⟨hv.ok x hx, hv.ne x hx, hf x hx⟩
  refine ⟨by rw [List.length_append, List.flatMap_append]; exact hown, ⟨fun x hx => ?_, fun x hx => (hall x hx).2.1, fun x hx => ?_⟩, fun x hx ad had e => ?_, by rw [List.map_append, h.eq]⟩
  · exact row_grown (hall x hx).1 hg (hall x hx).2.2
  · rcases List.mem_append.1 hx with hx | hx
    · exact h.sin.hi x hx
    · exact hv.hi x hx
  · rw [List.length_append] at e
    rcases hat _ e with e | e
    · exact (hall x hx).2.2 ad had e
    · obtain ⟨b, off, h1, h2, _⟩ := (hall x hx).1 (hall x hx).2.1
      rw [had] at h1
      injection h1 with h1
      subst h1
      simp at e
      omega
theorem SfJ.new (h : SfJ B a L us A c W) {w : World} (hB : w.heap.size ≤ B) (hn : newer w W) (hg : W.grownBy W' (Value.slice A us.length c).ownBlock) : newer w W' := by
  cases hx : (Value.slice A us.length c).ownBlock with
  | none =>
    rw [hx] at hg
    exact newer_trans hn (below_grown hg (fun q e => by cases e) (Nat.le_refl _))
  | some k =>
    rw [hx] at hg
    exact Below.trans hn (below_of_grown hg (Nat.le_trans hB (own_ge h.own k hx)) hn.size)
end

end Go.Proofs.Ytkenokpobbichaa
