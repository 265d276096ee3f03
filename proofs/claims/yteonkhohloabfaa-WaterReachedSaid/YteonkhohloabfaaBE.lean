/- Two truths at once: greater numbers, greater pumps. -/
import Derived.Test.YteonkhohloabfaaBC
import Derived.Test.YteonkhohloabfaaAJ
import Derived.Test.YteonkhohloabfaaL2
namespace Go.Proofs.Yteonkhohloabfaa
open Go.RowKit

/-- Two pointers to blocks apart. -/
def apartP (v v' : Value) : Prop := ∀ b b', v = .pointer (some ⟨b, 0, none⟩) → v' = .pointer (some ⟨b', 0, none⟩) → b ≠ b'
theorem apartP_new {B : Nat} {t : TypeId} {cs : Array Value} {W : World} {v' : Value} (h : vNew B t cs v' W) : apartP (.pointer (some ⟨W.heap.size, 0, none⟩)) v' ∧ apartP v' (.pointer (some ⟨W.heap.size, 0, none⟩)) := by
  obtain ⟨nb, rfl, _, hw⟩ := h
  have := hw.lt
  constructor
  · intro b b' e1 e2
    injection e1 with e1; injection e1 with e1; injection e1 with e1
    injection e2 with e2; injection e2 with e2; injection e2 with e2
    omega
  · intro b b' e1 e2
    injection e1 with e1; injection e1 with e1; injection e1 with e1
    injection e2 with e2; injection e2 with e2; injection e2 with e2
    omega
/-- A truth that fits, in rows of its own. -/
def vTrOF (g : Gnd) (days : List Day) (v : Value) (W : World) : Prop := ∃ sn so lv rn, vTrO sn so lv rn v W ∧ fitsB g days sn so lv rn = true
theorem vTrOF_st {g : Gnd} {days : List Day} : ∀ v W W', vTrOF g days v W → newer W W' → vTrOF g days v W' := fun _ _ _ ⟨a, b, c, d, h1, h2⟩ hb => ⟨a, b, c, d, vTrO_st _ _ _ h1 hb, h2⟩
/-- Four numbers stored in a truth's box. -/
abbrev putT (W : World) (tb : Nat) (v0 v1 v2 v3 : Value) : World := (((W.setCell ⟨tb, 0, none⟩ v0).setCell ⟨tb, 1, none⟩ v1).setCell ⟨tb, 2, none⟩ v2).setCell ⟨tb, 3, none⟩ v3
theorem putT_whole {W : World} {tb : Nat} {t : TypeId} {c0 c1 c2 c3 : Value} (h : Whole W tb t #[c0, c1, c2, c3]) (v0 v1 v2 v3 : Value) : Whole (putT W tb v0 v1 v2 v3) tb t #[v0, v1, v2, v3] :=
  (((h.set 0 v0).set 1 v1).set 2 v2).set 3 v3
theorem putT_far {W : World} {tb g : Nat} {t : TypeId} {cs : Array Value} (h : Whole W g t cs) (hne : g ≠ tb) (v0 v1 v2 v3 : Value) : Whole (putT W tb v0 v1 v2 v3) g t cs :=
  (((h.far hne v0).far hne v1).far hne v2).far hne v3
theorem putT_own {W : World} {tb base : Nat} {e t : TypeId} {size n : Nat} {v : Value} {xs : List Value} {cs : Array Value} (h : W.ownsRow base e size v n xs) (ht : Whole W tb t cs) (hne : e ≠ t) (v0 v1 v2 v3 : Value) : (putT W tb v0 v1 v2 v3).ownsRow base e size v n xs := by
  have ne := own_ne h ht hne
  exact own_set (own_set (own_set (own_set h ne _) ne _) ne _) ne _
theorem putT_below {B : Nat} {w W : World} {tb : Nat} (h : Below B w W) (hB : B ≤ tb) (v0 v1 v2 v3 : Value) : Below B w (putT W tb v0 v1 v2 v3) :=
  (((h.setCell (p := ⟨tb, 0, none⟩) hB _).setCell (p := ⟨tb, 1, none⟩) hB _).setCell (p := ⟨tb, 2, none⟩) hB _).setCell (p := ⟨tb, 3, none⟩) hB _
/-- The greater one of two numbers. -/
def mx (a b : Int) : Int := if a < b then b else a
/-- The lesser one of two numbers. -/
def mn (a b : Int) : Int := if b < a then b else a
theorem mn_le (a b : Int) : mn a b ≤ a ∧ mn a b ≤ b ∧ (mn a b = a ∨ mn a b = b) := by unfold mn; split <;> omega
theorem mx_ge (a b : Int) : a ≤ mx a b ∧ b ≤ mx a b ∧ (mx a b = a ∨ mx a b = b) := by unfold mx; split <;> omega
theorem apart_base {v v' : Value} {B : Nat} (h1 : ∀ q, v.ownBlock = some q → q < B) (h2 : ∀ q, v'.ownBlock = some q → B ≤ q) : v.ownBlock = none ∨ v.ownBlock ≠ v'.ownBlock := by
  cases hv : v.ownBlock with
  | none => exact .inl rfl
  | some q =>
    refine .inr fun e => ?_
    have := h1 q hv
    have := h2 q e.symm
    omega
/-- The greater numbers of two lists. -/
def mxL (l m : List Int) (n : Nat) : List Int := (List.range n).map fun i => mx (iAt l i) (iAt m i)
theorem mxL_len (l m : List Int) (n : Nat) : (mxL l m n).length = n := by simp [mxL]
theorem mxL_at {l m : List Int} {n j : Nat} (h : j < n) : iAt (mxL l m n) j = mx (iAt l j) (iAt m j) := iAt_range _ h
/-- The greater numbers fit, too. -/
theorem mx_fit {g : Gnd} {days : List Day} {sn so sn' so' : Int} {lv rn lv' rn' : List Int} (h : fitsB g days sn so lv rn = true) (h' : fitsB g days sn' so' lv' rn' = true) : fitsB g days (mx sn sn') (mx so so') (mxL lv lv' lv.length) (mxL rn rn' rn.length) = true := by
  simp only [fitsB, Bool.and_eq_true, inB, decide_eq_true_eq] at h h'
  obtain ⟨⟨⟨⟨⟨f1, f2⟩, f3⟩, f4⟩, f5⟩, f6⟩ := h
  obtain ⟨⟨⟨⟨⟨f1', f2'⟩, f3'⟩, f4'⟩, f5'⟩, f6'⟩ := h'
  have m1 := mx_ge sn sn'
  have m2 := mx_ge so so'
  simp only [fitsB, Bool.and_eq_true, inB, decide_eq_true_eq, mxL_len]
  refine ⟨⟨⟨⟨⟨f1, f2⟩, by omega⟩, by omega⟩, goodB_true fun j hj => ?_⟩, goodB_true fun j hj => ?_⟩
  · have a := goodB_at f5 j hj
    have b := goodB_at f5' j hj
    simp only [lvB, inB, Bool.and_eq_true, decide_eq_true_eq] at a b ⊢
    rw [mxL_at (by omega)]
    have := mx_ge (iAt lv j) (iAt lv' j)
    omega
  · have a := goodB_at f6 j hj
    have b := goodB_at f6' j hj
    simp only [rnB, inB, Bool.and_eq_true, decide_eq_true_eq] at a b ⊢
    rw [mxL_at (by omega)]
    have := mx_ge (iAt rn j) (iAt rn' j)
    omega
theorem mx_more {g : Gnd} {days : List Day} {sn so sn' so' : Int} {lv rn lv' rn' : List Int} (hf : faultN g days = 0) (h : fitsB g days sn so lv rn = true) (h' : fitsB g days sn' so' lv' rn' = true) {k : Nat} (hk : k ≤ days.length) :
    (∀ i, i < g.cells.length → (stR g days sn so lv rn k).f i ≤ (stR g days (mx sn sn') (mx so so') (mxL lv lv' lv.length) (mxL rn rn' rn.length) k).f i) ∧ (stR g days sn so lv rn k).snow ≤ (stR g days (mx sn sn') (mx so so') (mxL lv lv' lv.length) (mxL rn rn' rn.length) k).snow := by
  have hl := fits_len h
  refine stAt_mono (wayOk_tr hf (mx_fit h h')) (wayOk_tr hf h) (Drier.refl _) (mx_ge so so').1 (fun i hi => ?_) (fun i hi => ?_) (mx_ge sn sn').1 k hk
  · rw [mxL_at (by omega)]
    exact (mx_ge _ _).1
  · dsimp only
    rw [mxL_at (by omega)]
    exact (mx_ge _ _).1
theorem cAt_pump (g : Gnd) (cell : Nat) (pump : Int) (i : Nat) (hi : i < g.cells.length) : cAt (withPump g cell pump).cells i = if i = cell then { cAt g.cells cell with pump := pump } else cAt g.cells i := by
  unfold withPump cAt
  simp only [List.getElem?_set]
  by_cases h : cell = i
  · subst h
    rw [if_pos rfl, if_pos hi, if_pos rfl]
    rfl
  · rw [if_neg h, if_neg (Ne.symm h)]
theorem pump_fit {g : Gnd} {days : List Day} {sn so : Int} {lv rn : List Int} (cell : Nat) (pump : Int) (h : fitsB g days sn so lv rn = true) : fitsB (withPump g cell pump) days sn so lv rn = true := by
  simp only [fitsB, Bool.and_eq_true, inB, decide_eq_true_eq] at h ⊢
  obtain ⟨⟨⟨⟨⟨f1, f2⟩, f3⟩, f4⟩, f5⟩, f6⟩ := h
  refine ⟨⟨⟨⟨⟨by rw [withPump_len]; exact f1, f2⟩, f3⟩, f4⟩, goodB_true fun j hj => ?_⟩, f6⟩
  rw [withPump_len] at hj
  have a := goodB_at f5 j hj
  simp only [lvB, inB, Bool.and_eq_true, decide_eq_true_eq] at a ⊢
  rw [cAt_pump g cell pump j hj]
  split
  · subst_vars; exact a
  · exact a
theorem pump_less {g : Gnd} {days : List Day} {sn so : Int} {lv rn : List Int} (cell : Nat) {pump : Int} (hf : faultN g days = 0) (hcl : cell < g.cells.length) (h : fitsB g days sn so lv rn = true) (hp : (cAt g.cells cell).pump ≤ pump) (h0 : 0 ≤ pump) (h1 : pump ≤ 100000) {k : Nat} (hk : k ≤ days.length) :
    ∀ i, i < g.cells.length → (stR (withPump g cell pump) days sn so lv rn k).f i ≤ (stR g days sn so lv rn k).f i := by
  have ok' : WayOk (withPump g cell pump).cells g.melt so days rn ⟨iAt lv, sn, 0⟩ := wayOk_tr (fault_pump hf cell h0 h1) (pump_fit cell pump h)
  have hm := stAt_mono (wayOk_tr hf h) ok' (by have hd := drier_pump g cell hp; rw [withPump_self g cell hcl] at hd; exact hd) (Int.le_refl _) (fun _ _ => Int.le_refl _) (fun _ _ => Int.le_refl _) (Int.le_refl _) k hk
  exact hm.1

/-- A ground's box. -/
structure Gw (pb : Nat) (g : Gnd) (A : Option Addr) (cp : Nat) (W : World) : Prop where
  gb : Whole W pb 26 (gndC A cp g)
  hc : Row cellL 7 W W.heap.size A g.cells
theorem Gw.next {pb : Nat} {g : Gnd} {A : Option Addr} {cp : Nat} {W W' : World} (h : Gw pb g A cp W) (hb : newer W W') : Gw pb g A cp W' := ⟨h.gb.below hb h.gb.lt, (h.hc.below hb).more hb.size⟩
abbrev putG (W : World) (tb : Nat) (v0 v1 v2 v3 v4 v5 : Value) : World := (((((W.setCell ⟨tb, 0, none⟩ v0).setCell ⟨tb, 1, none⟩ v1).setCell ⟨tb, 2, none⟩ v2).setCell ⟨tb, 3, none⟩ v3).setCell ⟨tb, 4, none⟩ v4).setCell ⟨tb, 5, none⟩ v5
theorem putG_whole {W : World} {tb : Nat} {t : TypeId} {c0 c1 c2 c3 c4 c5 : Value} (h : Whole W tb t #[c0, c1, c2, c3, c4, c5]) (v0 v1 v2 v3 v4 v5 : Value) : Whole (putG W tb v0 v1 v2 v3 v4 v5) tb t #[v0, v1, v2, v3, v4, v5] :=
  (((((h.set 0 v0).set 1 v1).set 2 v2).set 3 v3).set 4 v4).set 5 v5
theorem putG_own {W : World} {tb base : Nat} {e t : TypeId} {size n : Nat} {v : Value} {xs : List Value} {cs : Array Value} (h : W.ownsRow base e size v n xs) (ht : Whole W tb t cs) (hne : e ≠ t) (v0 v1 v2 v3 v4 v5 : Value) : (putG W tb v0 v1 v2 v3 v4 v5).ownsRow base e size v n xs := by
  have ne := own_ne h ht hne
  exact own_set (own_set (own_set (own_set (own_set (own_set h ne _) ne _) ne _) ne _) ne _) ne _
theorem putG_below {B : Nat} {w W : World} {tb : Nat} (h : Below B w W) (hB : B ≤ tb) (v0 v1 v2 v3 v4 v5 : Value) : Below B w (putG W tb v0 v1 v2 v3 v4 v5) :=
  (((((h.setCell (p := ⟨tb, 0, none⟩) hB _).setCell (p := ⟨tb, 1, none⟩) hB _).setCell (p := ⟨tb, 2, none⟩) hB _).setCell (p := ⟨tb, 3, none⟩) hB _).setCell (p := ⟨tb, 4, none⟩) hB _).setCell (p := ⟨tb, 5, none⟩) hB _
end Go.Proofs.Yteonkhohloabfaa
