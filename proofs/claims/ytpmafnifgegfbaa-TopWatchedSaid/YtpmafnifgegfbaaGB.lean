/- Laws that no layer owns: rows, blocks, drawn regions by words, appends, maps. -/
import Derived.RangeFuncBound
import Derived.Shelf.Abstract
import Derived.Shelf.RegionOpen
import Derived.OwnWalkIn
import Derived.TacticsInMore
import Derived.LoopNIn
import Derived.LoopIn
import Derived.Deep.OwnRows
import Derived.Test.YtpmafnifgegfbaaGA
namespace Go.Proofs.Ytpmafnifgegfbaa




section
open Go.RowKit Go.Shelf Go.Deep
theorem Row.same {α : Type} {enc : α → List Value} {s B : Nat} {w W : World} {A : Option Addr} {l : List α} (h : Row enc s w B A l) (hs : ∀ k, k < B → W.heap[k]? = w.heap[k]?) : Row enc s W B A l := by
 intro hl
 obtain ⟨b, off, e, hb, hc⟩ := h hl
 exact ⟨b, off, e, hb, fun k x hk j v hj => (cell_of_same (hs b hb) _).trans (hc k x hk j v hj)⟩
section
theorem grown_setBlock (W : World) (b : Nat) (o : Obj) : W.grownBy (Go.ChangeMaps.setBlock W b o) (some b) :=
 ⟨rfl, rfl, rfl, by simp [Go.ChangeMaps.setBlock], fun k _ hk => setBlock_get_ne o (fun e => hk (by rw [e]))⟩
end
end
section
open Go.RowKit Go.Shelf Go.Deep
theorem newer_drew_ (w : World) : newer w w.drew := (Below.refl _ w).drew
end
section
open Go.RowKit
section
variable {P : Program}
def stageN (p q : Nat) (listed : Array Bool) : Nat := match listed.getD p false, listed.getD q false with
 | false, _ => 0
 | true, false => 1
 | true, true => 2
def stepT (P : Program) (l : List Oper) (n p q : Nat) (Q : Exit → Act → World → Prop) (a₀ : Act) (G : Nat → World → Prop) (Rp Rq : World → World → Prop) (D : Nat → Value → World → Prop) (i : Nat) (o : Oper) : Prop :=
 match Nat.beq i p, Nat.beq i q with
 | true, _ => ∀ a W, G 0 W → Outer l n a₀ a → preds l D a W o.after.toList → o.wp P a W (fun a' W' => ∃ v, a' = a.put o.dst v ∧ D i v W' ∧ Rp W W' ∧ G 1 W') Q
 | false, true => ∀ a W, G 1 W → Outer l n a₀ a → preds l D a W o.after.toList → o.wp P a W (fun a' W' => ∃ v, a' = a.put o.dst v ∧ D i v W' ∧ Rq W W' ∧ G 2 W') Q
 | false, false => match edgeB l p i, edgeB l q i with
  | true, _ => ∀ a W, G 0 W → Outer l n a₀ a → preds l D a W o.after.toList → o.wp P a W (fun a' W' => ∃ v, a' = a.put o.dst v ∧ D i v W' ∧ newer W W') Q
  | false, true => ∀ s a W, s ≤ 1 → G s W → Outer l n a₀ a → preds l D a W o.after.toList → o.wp P a W (fun a' W' => ∃ v, a' = a.put o.dst v ∧ D i v W' ∧ newer W W') Q
  | false, false => ∀ s a W, G s W → Outer l n a₀ a → preds l D a W o.after.toList → o.wp P a W (fun a' W' => ∃ v, a' = a.put o.dst v ∧ D i v W' ∧ newer W W') Q
def stepsT (P : Program) (l : List Oper) (n p q : Nat) (Q : Exit → Act → World → Prop) (a₀ : Act) (G : Nat → World → Prop) (Rp Rq : World → World → Prop) (D : Nat → Value → World → Prop) : Nat → List Oper → Prop
 | _, [] => True
 | i, o :: os => stepT P l n p q Q a₀ G Rp Rq D i o ∧ stepsT P l n p q Q a₀ G Rp Rq D (i + 1) os
theorem stepsT_get {l : List Oper} {n p q : Nat} {Q : Exit → Act → World → Prop} {a₀ : Act} {G : Nat → World → Prop} {Rp Rq : World → World → Prop} {D : Nat → Value → World → Prop} : ∀ (os : List Oper) (k : Nat), stepsT P l n p q Q a₀ G Rp Rq D k os → ∀ i o, os[i]? = some o → stepT P l n p q Q a₀ G Rp Rq D (k + i) o
 | [], _, _, i, o, h => by simp at h
 | x :: os, k, hs, 0, o, h => by simp at h; subst h; exact hs.1
 | x :: os, k, hs, i + 1, o, h => by
  have := stepsT_get os (k + 1) hs.2 i o (by simpa using h)
  rw [show k + (i + 1) = k + 1 + i by omega]
  exact this
theorem beq_is {a b : Nat} : Nat.beq a b = decide (a = b) := by
 cases h : Nat.beq a b with
 | true => rw [decide_eq_true (Nat.eq_of_beq_eq_true h)]
 | false => rw [decide_eq_false (Nat.ne_of_beq_eq_false h)]
end
end
section
open Go.RowKit Go.Shelf Go.Deep
theorem own_same {W W' : World} {base : Nat} {e : TypeId} {size n : Nat} {v : Value} {xs : List Value} (h : W.ownsRow base e size v n xs) (hs : ∀ k, v.ownBlock = some k → W'.heap[k]? = W.heap[k]?) : W'.ownsRow base e size v n xs := by
 rcases h.2 with h0 | ⟨g, cap, cur, hv, hb, hg, hr⟩
 ·exact ⟨h.1, .inl h0⟩
 ·exact ⟨h.1, .inr ⟨g, cap, cur, hv, hb, (hs g (by rw [hv]; rfl)).trans hg, hr⟩⟩
end











section
open Go.ChangeShapes Go.WideShapes Go.ChangeAt Go.RowKit Go.Deep
theorem len5 {α : Type} {l : List α} (h : l.length = 5) : ∃ a b c d e, l = [a, b, c, d, e] := by
 match l, h with
 | [a, b, c, d, e], _ => exact ⟨a, b, c, d, e, rfl⟩
end
section
open Go.RowKit Go.Shelf Go.Deep
theorem wp_append_all {α : Type} {enc : α → List Value} {size : Nat} {P : Program} {w : World} {o : Oper} {a : Act} {K : Act → World → Prop} {Q : Exit → Act → World → Prop} (base : Nat) (s x : Operand) (t e : TypeId) (i0 : TypeInfo) (z : Value) (bytes : Nat)
  (ht : P.underlying t = some (.slice e)) (hi0 : P.info? e = some i0) (hz0 : i0.zero = some z) (hz1 : i0.size = size) (hz2 : i0.bytes = bytes) (hzs : z.cells.size = size) (hs0 : 0 < size) (he : ∀ x, (enc x).length = size) (he1 : ∀ x, ∀ u ∈ enc x, u.oneCell' = true)
  (ho : o.op = .call { callee := .builtin .append, args := #[s, x], argTypes := #[t, t] })
  (A : Option Addr) (n c : Nat) (xs : List Value) (hs : a.eval s = .slice A n c) (hown : w.ownsRow base e size (.slice A n c) n xs)
  (l : List α) (A2 : Option Addr) (cp : Nat) (hx : a.eval x = .slice A2 l.length cp) (hr : Row enc size w w.heap.size A2 l) (h63 : n + l.length ≤ maxLen) (hbytes : (n + l.length) * bytes ≤ 140737488355328) (hbase : base ≤ w.heap.size)
  (h : ∀ B c' w', w'.ownsRow base e size (.slice B (n + l.length) c') (n + l.length) (xs ++ l.flatMap enc) → w.grownBy w' (Value.slice A n c).ownBlock → (∀ g, (Value.slice B (n + l.length) c').ownBlock = some g → (Value.slice A n c).ownBlock = some g ∨ g = w.heap.size) → K (a.put o.dst (.slice B (n + l.length) c')) w') : Oper.wp P o a w K Q := by
 rcases Nat.eq_zero_or_pos l.length with h0 | hpos
 ·obtain rfl : l = [] := List.eq_nil_of_length_eq_zero h0
  obtain ⟨hroom, _⟩ := own_room hown
  have hrun : (Builtin.append_ #[t, t] o.type #[.slice A n c, .slice A2 0 cp]).run P w = .ok (.slice A n c) w := by
   have hu := run_underlying (P := P) (w := w) ht
   rcases A with _ | ad <;> rcases A2 with _ | ad2 <;> simp [Builtin.append_, hu, sizeOf, typeInfo, hi0, Builtin.lenOf, Builtin.firstCells, loadCells, loadCellsFrom, storeCells, hroom]
  unfold Oper.wp
  simp only [List.length_nil] at hx
  simp [execOp, ho, resolve, invoke, builtin, hs, hx, hrun, Result.andThen]
  exact h A c w (by simpa using hown) (World.grownBy.refl _ _) (fun g hg => .inl hg)
 ·obtain ⟨b, off, rfl, hb, hc⟩ := hr (by intro e; rw [e] at hpos; simp at hpos)
  refine wp_append_lies w s x t ho base e i0 z size bytes ht hi0 hz0 hz1 hz2 hzs hs0 (.slice A n c) n xs hs hown ⟨b, off, none⟩ l.length cp (l.flatMap enc) hx (by rw [flat_len (enc := enc) (s := size) he]) (row_news (enc := enc) (s := size) hs0 he hr) (fun u hu => by
   obtain ⟨y, _, hy⟩ := List.mem_flatMap.1 hu
   exact he1 y u hy) hpos h63 hbytes hbase w.heap.size rfl ?_
  intro g cap w' h2 h3 h4 _
  refine h _ _ w' h2 h3 fun g' hg' => ?_
  obtain rfl : g = g' := by simpa [Value.ownBlock] using hg'
  exact h4
end











section
open Go.ChangeShapes Go.WideShapes Go.ChangeAt Go.RowKit Go.Deep

end


section
open Go.RowKit Go.Shelf Go.Deep

end
section
open Go.RowKit Go.Shelf Go.Deep
structure Ln where
 l : List Int
 a : Option Addr
 c : Nat
abbrev lnL (x : Ln) : List Value := [.slice x.a x.l.length x.c]
abbrev lnV (x : Ln) : Value := .slice x.a x.l.length x.c
theorem rowLn {w : World} {B : Nat} {A : Option Addr} {l : List Ln} (h : Row lnL 1 w B A l) {k : Nat} {c : Ln} (hk : l[k]? = some c) :
  ∃ b off, A = some ⟨b, off, none⟩ ∧ b < B ∧ w.cell? ⟨b, off + k, none⟩ = some (.slice c.a c.l.length c.c) := by
 obtain ⟨b, off, e, hb, hc⟩ := h (ne_nil_of_get hk)
 exact ⟨b, off, e, hb, by simpa using hc k c hk 0 _ rfl⟩
end

section
open Go.RowKit Go.Shelf Go.Deep


end
section
open Go.RowKit Go.Shelf Go.Deep

end




section
open Go.ChangeShapes Go.WideShapes Go.ChangeAt Go.RowKit Go.Deep

end

section
open Go.ChangeShapes Go.WideShapes Go.ChangeAt Go.RowKit Go.Deep

end
section
open Go.ChangeShapes Go.WideShapes Go.ChangeAt Go.RowKit Go.Deep

end
end Go.Proofs.Ytpmafnifgegfbaa
