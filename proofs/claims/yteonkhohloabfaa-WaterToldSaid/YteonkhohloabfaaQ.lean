/- Words for regions in which one operation writes memory of its own. -/
import Derived.Test.YteonkhohloabfaaK
namespace Go.Proofs.Yteonkhohloabfaa
open Go.RowKit

theorem newer_refl (W : World) : newer W W := Below.refl _ _
theorem grown_of_newer {W W' : World} (h : newer W W') (row : Option Nat) : W.grownBy W' row := ⟨h.os, h.tape, h.output, h.size, fun i hi _ => h.block i hi⟩
/-- Operation m turns memory by R, all others make memory alone. -/
def relAt (m : Nat) (R : World → World → Prop) (i : Nat) : World → World → Prop := match Nat.beq i m with
  | true => R
  | false => newer
/-- Each word but the m-th abides R. -/
def allBut (R : World → World → Prop) (m : Nat) : Nat → List (Value → World → Prop) → Prop
  | _, [] => True
  | i, p :: ps => (match Nat.beq i m with
      | true => ∀ v W W', p v W → newer W W' → p v W'
      | false => ∀ v W W', p v W → R W W' → p v W') ∧ allBut R m (i + 1) ps
theorem allBut_get {R : World → World → Prop} {m : Nat} (hR : ∀ W W', newer W W' → R W W') : ∀ (ps : List (Value → World → Prop)) (k : Nat), allBut R m k ps → ∀ j v W W' i, j + k ≠ i → pickD ps j v W → relAt m R i W W' → pickD ps j v W'
  | [], _, _, _, _, _, _, _, _, _, _ => trivial
  | p :: ps, k, hs, 0, v, W, W', i, hne, h, hr => by
    obtain ⟨h1, _⟩ := hs
    unfold relAt at hr
    cases hk : Nat.beq k m with
    | true =>
      rw [hk] at h1
      have hkm : k = m := Nat.eq_of_beq_eq_true hk
      have : Nat.beq i m = false := by
        cases hb : Nat.beq i m with
        | false => rfl
        | true => exact absurd (Nat.eq_of_beq_eq_true hb) (by omega)
      rw [this] at hr
      exact h1 v W W' h hr
    | false =>
      rw [hk] at h1
      cases hb : Nat.beq i m with
      | true => rw [hb] at hr; exact h1 v W W' h hr
      | false => rw [hb] at hr; exact h1 v W W' h (hR _ _ hr)
  | p :: ps, k, hs, j + 1, v, W, W', i, hne, h, hr => allBut_get hR ps (k + 1) hs.2 j v W W' i (by omega) h hr
theorem allBut_ok {R : World → World → Prop} {m n : Nat} (hR : ∀ W W', newer W W' → R W W') (ps : List (Value → World → Prop)) (hs : allBut R m 0 ps) : ∀ i j v W W', i < n → j ≠ i → pickD ps j v W → relAt m R i W W' → pickD ps j v W' :=
  fun i j v W W' _ hne h hr => allBut_get hR ps 0 hs j v W W' i (by omega) h hr
theorem vOne_grown {B : Nat} {t : TypeId} {cs : Array Value} {row : Option Nat} (hr : ∀ q, row = some q → q < B) : ∀ v W W', vOne B t cs v W → W.grownBy W' row → vOne B t cs v W' :=
  fun _ _ _ ⟨nb, h1, h2, h3⟩ hg => ⟨nb, h1, h2, h3.grown hg (by intro e; have := hr nb e.symm; omega)⟩
/-- What append leaves. -/
def vApp (H base : Nat) (e : TypeId) (size m : Nat) (xs : List Value) (row : Option Nat) (v : Value) (W : World) : Prop :=
  ∃ gg cap, v = .slice (some ⟨gg, 0, none⟩) m cap ∧ W.ownsRow base e size (.slice (some ⟨gg, 0, none⟩) m cap) m xs ∧ (row = some gg ∨ H ≤ gg)
theorem vApp_st {H base : Nat} {e : TypeId} {size m : Nat} {xs : List Value} {row : Option Nat} : ∀ v W W', vApp H base e size m xs row v W → newer W W' → vApp H base e size m xs row v W' :=
  fun _ _ _ ⟨gg, cap, h1, h2, h3⟩ hb => ⟨gg, cap, h1, own_below h2 hb, h3⟩
theorem setCell_same {w : World} {g i : Nat} {v : Value} (h : w.cell? ⟨g, i, none⟩ = some v) : w.setCell ⟨g, i, none⟩ v = w := by
  unfold World.cell? at h
  have hs : (w.setCell ⟨g, i, none⟩ v).heap = w.heap := by
    apply Array.ext_getElem?
    intro k
    by_cases hk : k = g
    · subst hk
      simp only [World.setCell, Array.getElem?_modify]
      dsimp only at h
      cases ho : w.heap[k]? with
      | none => simp
      | some o =>
        rw [ho] at h
        cases o with
        | cells c e fr =>
          simp only [Option.isSome_none, Bool.false_eq_true, if_false] at h
          simp only [if_pos, Option.map_some, Option.isSome_none, Bool.false_eq_true, if_false]
          have hc : c.setIfInBounds i v = c := by
            apply Array.ext_getElem?
            intro q
            by_cases hq : i = q
            · subst hq
              rw [Array.getElem?_setIfInBounds_self_of_lt (Array.getElem?_eq_some_iff.1 h).1, h]
            · rw [Array.getElem?_setIfInBounds_ne hq]
          rw [hc]
        | _ => simp at h
    · exact Below.heap_setCell w ⟨g, i, none⟩ v k hk
  show ({ w with heap := (w.setCell ⟨g, i, none⟩ v).heap } : World) = w
  rw [hs]
theorem wp_skips {P : Program} {o : Oper} {a : Act} {W W' : World} {K : Act → World → Prop} {Q : Exit → Act → World → Prop} (h : (execOp a.eval o).run P W = .ok .skip W') (hk : K (a.put o.dst undef) W') : o.wp P a W K Q := by
  unfold Oper.wp
  rw [h]
  exact hk
theorem keep_frozen {W W' : World} {p : Addr} {v : Value} (h : W.frozen? p = false) (hc : W.cell? p = some v) (hb : Below W.heap.size W W') : W'.frozen? p = false := (hb.frozen (World.block_lt_of_cell? W _ hc)).trans h
theorem eval_slot (a : Act) (t : Nat) : a.eval (.tmp t) = slotOf a t := by simp [Act.eval, slotOf]
theorem keep_low {w7 W : World} {row : Option Nat} {base : Nat} {p : Addr} {v : Value} (h : w7.cell? p = some v) (hG : w7.grownBy W row) (hnv : ∀ q, row = some q → base ≤ q) (hp : p.block < base) : W.cell? p = some v :=
  (World.cell?_of_block (hG.block p.block (World.block_lt_of_cell? w7 _ h) (fun e => by have := hnv _ e.symm; omega))).trans h
theorem grown_trans' {a b c : World} {row : Option Nat} (h : a.grownBy b row) (k : b.grownBy c row) : a.grownBy c row :=
  ⟨k.os.trans h.os, k.tape.trans h.tape, k.output.trans h.output, Nat.le_trans h.size k.size, fun i hi hne => (k.block i (Nat.lt_of_lt_of_le hi h.size) hne).trans (h.block i hi hne)⟩
theorem own_own_ne {w : World} {base base' : Nat} {e e' : TypeId} {size size' n n' : Nat} {v v' : Value} {xs xs' : List Value} (h : w.ownsRow base e size v n xs) (h' : w.ownsRow base' e' size' v' n' xs') (hne : e ≠ e') : ∀ q, v.ownBlock = some q → v'.ownBlock ≠ some q := by
  intro q hq hq'
  rcases h.2 with ⟨rfl, _⟩ | ⟨g, cap, cur, rfl, _, hh, _⟩
  · simp [Value.ownBlock] at hq
  · rcases h'.2 with ⟨rfl, _⟩ | ⟨g', cap', cur', rfl, _, hh', _⟩
    · simp [Value.ownBlock] at hq'
    · have e1 : g = q := by simpa [Value.ownBlock] using hq
      have e2 : g' = q := by simpa [Value.ownBlock] using hq'
      subst e1
      subst e2
      rw [hh] at hh'
      injection hh' with hh'
      injection hh' with _ ht
      exact hne ht
theorem below_grown {B : Nat} {a w : World} {row : Option Nat} (h : a.grownBy w row) (hr : ∀ q, row = some q → B ≤ q) (hB : B ≤ a.heap.size) : Below B a w :=
  ⟨h.os, h.tape, h.output, h.size, fun i hi => h.block i (by omega) (fun e => by have := hr i e.symm; omega)⟩
end Go.Proofs.Yteonkhohloabfaa
