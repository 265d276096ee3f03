/- Laws that no layer owns: rows, blocks, drawn regions by words, appends, maps. -/
import Derived.Deep.CutBlock
import Derived.Laws.Cells
import Derived.Laws.Tables
import Derived.Laws.Rows
import Derived.DeepKeys3
import Derived.RangeFuncBound
import Derived.Shelf.Abstract
import Derived.Shelf.RegionOpen
import Derived.OwnWalkIn
import Derived.TacticsInMore
import Derived.LoopNIn
import Derived.LoopIn
import Derived.Deep.DeepAppendRoom
import Derived.ArgAppend
import Derived.Deep.DeepCutAuto
import Derived.Great.BuildSlice
import Derived.Laws.OwnMore
import Derived.WalkMore
import Derived.Test.YtpmafnifgegfbaaG
namespace Go.Proofs.Ytpmafnifgegfbaa

section
open Go.RowKit
theorem hrow_ok {α : Type} {enc : α → List Value} {s : Nat} {w : World} {A : Option Addr} {l : List α} (h : Row enc s w w.heap.size A l) (o : Obj) : Row enc s (w.alloc o) (w.alloc o).heap.size A l := row_alloc h o
end


section
open Go.RowKit
theorem all_bad {α : Type} {l : List α} {p : α → Bool} {k : Nat} {x : α} (h : l[k]? = some x) (hx : p x = false) : l.all p = false := by
 rw [List.all_eq_false]
 exact ⟨x, List.mem_of_getElem? h, by simp [hx]⟩
theorem all_early {α : Type} {l : List α} {p : α → Bool} (h : early (fun x => !p x) l l.length) : l.all p = true := by
 rw [List.all_eq_true]
 intro x hx
 obtain ⟨j, hj⟩ := List.mem_iff_getElem?.1 hx
 have := h j x (List.getElem?_eq_some_iff.1 hj).1 hj
 simpa using this
end

section
open Go.RowKit Go.Deep
theorem Whole.setRow {W : World} {b : Nat} {t : TypeId} {cs : Array Value} (h : Whole W b t cs) (vs : Array Value) : Whole (W.setRow b vs) b t vs := by
 unfold Whole at h ⊢
 simp [World.setRow, Array.getElem?_modify, h]
end
section
section
open Go.RowKit
variable {P : Program}
theorem yielded_ne {l : List Oper} {tmps : Array Value} {j : Nat} {dj : Tmp} {oj : Oper} {b : Bool} {v : Value} (hoj : l[j]? = some oj) (hd : oj.dst = some dj) (ht : tmps[dj]? = some v) (hv : v ≠ .bool b) : yielded l.toArray tmps j ≠ some b := by
 have e : (((l.toArray)[j]?).bind (·.dst)).bind (tmps[·]?) = some v := by
  simp only [List.getElem?_toArray, hoj, Option.bind_some, hd, ht]
 unfold yielded
 rw [e]
 intro h
 cases v with
 | bool b' => cases h; exact hv rfl
 | _ => cases h
theorem region_rel_u {l : List Oper} {n : Nat} {Q : Exit → Act → World → Prop} {a₀ : Act} {w : World} (hB : relG l n = true)
  (sk : Nat → Bool) (G : World → Prop) (Rl : Nat → World → World → Prop) (D : Nat → Value → World → Prop)
  (hgd : ∀ (i : Nat) (o : Oper) (j : Nat) (b : Bool), i < n → l[i]? = some o → o.guard = some (j, b) → ∀ v W, D j v W → if sk i then v ≠ .bool b else v = .bool b)
  (hsk : ∀ (i : Nat) (o : Oper), i < n → l[i]? = some o → sk i = true → o.guard ≠ none) (hDsk : ∀ i W, sk i = true → D i undef W)
  (hDs : ∀ i j v W W', i < n → j ≠ i → D j v W → Rl i W W' → D j v W')
  (hsz : ∀ i o d, i < n → l[i]? = some o → o.dst = some d → d < a₀.tmps.size)
  (hG : G w)
  (hstep : ∀ i o, i < n → l[i]? = some o → sk i = false → ∀ (listed : Array Bool) a W, listed.size = l.length → listed.getD i true = false → G W → Outer l n a₀ a →
   (∀ j oj d, j < n → l[j]? = some oj → oj.dst = some d → (∃ e ∈ o.after, Region.binds .any e = true ∧ e.on = j) → D j (slotOf a d) W) →
   o.wp P a W (fun a' W' => ∃ v, a' = a.put o.dst v ∧ D i v W' ∧ Rl i W W' ∧ G W') Q)
  (htail : ∀ (_ : Array Bool) a W, G W → Outer l n a₀ a → (∀ j oj d, j < n → l[j]? = some oj → oj.dst = some d → D j (slotOf a d) W) → wpList P l.toArray Q (l.drop n) a W) :
  wpAny P .any l.toArray Q l.toArray.size (Array.replicate l.toArray.size false) a₀ w := by
 simp only [relG, Bool.and_eq_true, decide_eq_true_eq] at hB
 obtain ⟨⟨⟨⟨⟨hn, hs⟩, hc⟩, hback⟩, hdst⟩, hseq⟩ := hB
 have hback' : ∀ (i : Nat) (o : Oper), l[i]? = some o → (∀ e ∈ o.after, Region.binds .any e = true → e.on < i) ∧ (∀ j b, o.guard = some (j, b) → j < i ∧ (∃ e ∈ o.after, Region.binds .any e = true ∧ e.on = j) ∧ ∃ oj dj, l[j]? = some oj ∧ oj.dst = some dj) := by
  intro i o ho
  have := List.all_eq_true.1 hback i (List.mem_range.2 (List.getElem?_eq_some_iff.1 ho).1)
  simp only [ho, Bool.and_eq_true, Array.all_eq_true_iff_forall_mem] at this
  refine ⟨fun e he hb => by simpa [hb] using this.1 e he, fun j b hg => ?_⟩
  have h2 := this.2
  rw [hg] at h2
  simp only [Bool.and_eq_true, decide_eq_true_eq, List.any_eq_true, beq_iff_eq] at h2
  obtain ⟨⟨h3, e, he, hb, hon⟩, h4⟩ := h2
  refine ⟨h3, ⟨e, Array.mem_toList_iff.1 he, hb, hon⟩, ?_⟩
  cases hj : l[j]? with
  | none => rw [hj] at h4; cases h4
  | some oj =>
   rw [hj] at h4
   obtain ⟨dj, hdj⟩ := Option.isSome_iff_exists.1 h4
   exact ⟨oj, dj, rfl, hdj⟩
 have hdst' : ∀ (i j : Nat) (o o' : Oper) (d : Tmp), i < n → j < n → i ≠ j → l[i]? = some o → l[j]? = some o' → o.dst = some d → o'.dst ≠ some d := by
  intro i j o o' d hi hj hij ho ho' hd hd'
  have := List.all_eq_true.1 (List.all_eq_true.1 hdst i (List.mem_range.2 hi)) j (List.mem_range.2 hj)
  simp [hij, ho, ho', hd, hd'] at this
 have key : ∀ (f : Nat) (listed : Array Bool) (a : Act) (W : World), HeadInv .any l.toArray n listed → ((List.range n).filter fun i => !listed.getD i false).length = f →
   G W → Outer l n a₀ a → (∀ (j : Nat) (oj : Oper) (d : Tmp), j < n → l[j]? = some oj → listed.getD j false = true → oj.dst = some d → D j (slotOf a d) W) →
   wpAny P .any l.toArray Q (f + (l.length - n)) listed a W := by
  intro f
  induction f with
  | zero =>
   intro listed a W inv hcnt hGW hO hD
   have hall : ∀ i, i < n → listed.getD i false = true := by
    intro i hi
    have := List.eq_nil_of_length_eq_zero hcnt
    have h2 := List.filter_eq_nil_iff.1 this i (List.mem_range.2 hi)
    simpa using h2
   have hcanon : listed = headDone n l.length := by
    apply Array.ext
    ·rw [inv.size]; simp [headDone]
    ·intro i h1 h2
     have hi : i < l.length := by simpa [headDone] using h2
     simp only [headDone, Array.getElem_ofFn]
     by_cases hin : i < n
     ·have := hall i hin
      simp [h1] at this
      simp [this, hin]
     ·have := inv.tail i (by omega) (by simpa using hi)
      simp [h1] at this
      simp [this, hin]
   rw [Nat.zero_add]
   have := wpAny_of_seq (md := .any) (Q' := Q) (P := P) (ops := l.toArray) (l.drop n) n listed a W (fun j => by simp [List.getElem?_drop]) (by rw [List.length_drop, hcanon]; exact hseq) (htail listed a W hGW hO (fun j oj d hj ho hd => hD j oj d hj ho (hall j hj) hd))
   rwa [List.length_drop] at this
  | succ f ih =>
   intro listed a W inv hcnt hGW hO hD
   -- some operation of the head has not come up
   have hex : ∃ i, i < n ∧ listed.getD i false = false ∧ ∀ j, j < i → listed.getD j false = true := by
    have hne : ((List.range n).filter fun i => !listed.getD i false) ≠ [] := by intro h; rw [h] at hcnt; cases hcnt
    have : ∃ i, i < n ∧ listed.getD i false = false := by
     obtain ⟨x, hx⟩ := List.exists_mem_of_ne_nil _ hne
     have hx' := List.mem_filter.1 hx
     exact ⟨x, List.mem_range.1 hx'.1, by simpa using hx'.2⟩
    obtain ⟨i, hi, hl⟩ := this
    have : ∀ k i, i ≤ k → i < n → listed.getD i false = false → ∃ i, i < n ∧ listed.getD i false = false ∧ ∀ j, j < i → listed.getD j false = true := by
     intro k
     induction k with
     | zero => intro i hik hi hl; exact ⟨i, hi, hl, fun j hj => by omega⟩
     | succ k ihk =>
      intro i hik hi hl
      by_cases h : ∃ j, j < i ∧ listed.getD j false = false
      ·obtain ⟨j, hj, hjl⟩ := h
       exact ihk j (by omega) (by omega) hjl
      ·refine ⟨i, hi, hl, fun j hj => ?_⟩
       cases hh : listed.getD j false with
       | true => rfl
       | false => exact absurd ⟨j, hj, hh⟩ h
    exact this i i (Nat.le_refl _) hi hl
   obtain ⟨i₀, hi₀, hun₀, hbelow⟩ := hex
   have hi₀s : i₀ < listed.size := by rw [inv.size]; simp; omega
   have hl₀ : listed.getD i₀ true = false := getD_in hi₀s hun₀
   have hready₀ : i₀ ∈ Region.ready .any l.toArray listed := by
    have ho : l[i₀]? = some l[i₀] := List.getElem?_eq_getElem (by omega)
    refine mem_ready.2 ⟨hl₀, l[i₀], by simp, fun e he hb => hbelow _ ((hback' i₀ _ ho).1 e he hb)⟩
   rw [show f + 1 + (l.length - n) = f + (l.length - n) + 1 by omega]
   refine ⟨fun h => (by rw [h] at hready₀; cases hready₀), fun i hi => ?_⟩
   have hin : i < n := by
    rcases Nat.lt_or_ge i n with h | h
    ·exact h
    ·exact absurd hi (tail_waits hs hc (by simpa using hn) inv _ i₀ rfl hi₀ hl₀ i h)
   obtain ⟨hiun, o, ho, hall⟩ := mem_ready.1 hi
   have ho' : l[i]? = some o := by simpa using ho
   unfold wpOp
   simp only [ho]
   have hgv : ∀ j b, o.guard = some (j, b) → if sk i then yielded l.toArray a.tmps j ≠ some b else yielded l.toArray a.tmps j = some b := by
    intro j b hg
    obtain ⟨hji, ⟨e, he, hb, hon⟩, oj, dj, hoj, hdj⟩ := (hback' i o ho').2 j b hg
    have hl := hall e he hb
    rw [hon] at hl
    have hv := hgd i o j b hin ho' hg _ _ (hD j oj dj (by omega) hoj hl hdj)
    have hsz' : dj < a.tmps.size := by rw [hO.size]; exact hsz j oj dj (by omega) hoj hdj
    have this : a.tmps[dj]? = some (slotOf a dj) := by
     unfold slotOf
     rw [Array.getElem?_eq_getElem hsz']
     rfl
    generalize slotOf a dj = v at hv this
    cases hsk' : sk i with
    | true =>
     rw [hsk'] at hv
     simp only [if_true] at hv ⊢
     exact yielded_ne hoj hdj this hv
    | false =>
     rw [hsk'] at hv
     simp only [Bool.false_eq_true, if_false] at hv ⊢
     subst hv
     simp [yielded, hoj, hdj, this]
   have hcount : ((List.range n).filter fun i_1 => !(listed.setIfInBounds i true).getD i_1 false).length = f := by
    have hiun' : listed.getD i false = false := getD_both hiun
    have his : i < listed.size := by rw [inv.size]; simp; omega
    have e1 : ((List.range n).filter fun j => !(listed.setIfInBounds i true).getD j false) = ((List.range n).filter fun j => !listed.getD j false).filter (fun j => decide (j ≠ i)) := by
     rw [List.filter_filter]
     apply List.filter_congr
     intro j _
     by_cases hji : j = i
     ·subst hji; simp [his]
     ·rw [getD_set_ne false (Ne.symm hji)]; simp [hji]
    rw [e1]
    have hnd : ((List.range n).filter fun j => !listed.getD j false).Nodup := List.nodup_range.filter _
    have hmem : i ∈ ((List.range n).filter fun j => !listed.getD j false) := List.mem_filter.2 ⟨List.mem_range.2 hin, by simp [hiun']⟩
    have := filter_ne_length i _ hnd hmem
    omega
   cases hski : sk i with
   | true =>
    have hw : ¬ Region.wanted o (yielded l.toArray a.tmps) = true := by
     unfold Region.wanted
     cases hg : o.guard with
     | none => exact absurd hg (hsk i o hin ho' hski)
     | some jb =>
      obtain ⟨j, b⟩ := jb
      have := hgv j b hg
      simp only [hski, if_true] at this
      simpa using this
    rw [if_neg hw]
    have hOut : Outer l n a₀ (a.put o.dst undef) := by
     refine ⟨?_, ?_, fun t ht => ?_⟩
     ·cases hd : o.dst <;> simp [Act.put, hO.defers]
     ·cases hd : o.dst <;> simp [Act.put, hO.size]
     ·cases hd : o.dst with
      | none => simpa [Act.put] using hO.same t ht
      | some d =>
       have hne : d ≠ t := fun h => ht i o hin ho' (by rw [hd, h])
       simp only [Act.put]
       rw [Array.getElem?_setIfInBounds_ne hne]
       exact hO.same t ht
    refine ih _ _ _ (inv.set hi hin) hcount hGW hOut ?_
    intro j oj d hj hoj hlj hd
    by_cases hji : j = i
    ·subst hji
     cases hd2 : o.dst with
     | none => have e9 : oj = o := Option.some.inj (hoj.symm.trans ho'); rw [e9, hd2] at hd; cases hd
     | some d9 =>
      have e9 : oj = o := Option.some.inj (hoj.symm.trans ho')
      rw [e9, hd2] at hd
      cases hd
      have hds : d < a.tmps.size := by rw [hO.size]; exact hsz j o d hj (e9 ▸ hoj) hd2
      rw [slot_put_same hds]
      exact hDsk _ _ hski
    ·rw [getD_set_ne false (Ne.symm hji)] at hlj
     have hold := hD j oj d hj hoj hlj hd
     cases hdo : o.dst with
     | none => simpa [Act.put] using hold
     | some d' =>
      have hne : d ≠ d' := fun h => hdst' j i oj o d hj hin hji hoj ho' hd (by rw [hdo, h])
      rw [slot_put_other hne]
      exact hold
   | false =>
    have hst := hstep i o hin ho' hski listed a W (by rw [inv.size]; simp) hiun hGW hO (fun j oj d hj hoj hd ⟨e, he, hb, hon⟩ => hD j oj d hj hoj (by rw [← hon]; exact hall e he hb) hd)
    have hw : Region.wanted o (yielded l.toArray a.tmps) = true := by
     unfold Region.wanted
     cases hg : o.guard with
     | none => rfl
     | some jb =>
      obtain ⟨j, b⟩ := jb
      have := hgv j b hg
      simp only [hski, Bool.false_eq_true, if_false] at this
      simpa using this
    rw [if_pos hw]
    refine .inl (Oper.wp_mono ?_ hst)
    rintro a' W' ⟨v, rfl, hDv, hRv, hGv⟩
    have hOut : Outer l n a₀ (a.put o.dst v) := by
     refine ⟨?_, ?_, fun t ht => ?_⟩
     ·cases hd : o.dst <;> simp [Act.put, hO.defers]
     ·cases hd : o.dst <;> simp [Act.put, hO.size]
     ·cases hd : o.dst with
      | none => simpa [Act.put] using hO.same t ht
      | some d =>
       have hne : d ≠ t := fun h => ht i o hin ho' (by rw [hd, h])
       simp only [Act.put]
       rw [Array.getElem?_setIfInBounds_ne hne]
       exact hO.same t ht
    refine ih _ _ _ (inv.set hi hin) hcount hGv hOut ?_
    intro j oj d hj hoj hlj hd
    by_cases hji : j = i
    ·subst hji
     have : oj = o := Option.some.inj (hoj.symm.trans ho')
     subst this
     have hds : d < a.tmps.size := by rw [hO.size]; exact hsz j oj d hj hoj hd
     rw [hd, slot_put_same hds]
     exact hDv
    ·rw [getD_set_ne false (Ne.symm hji)] at hlj
     have hold := hDs i j _ W W' hin hji (hD j oj d hj hoj hlj hd) hRv
     cases hdo : o.dst with
     | none => simpa [Act.put] using hold
     | some d' =>
      have hne : d ≠ d' := fun h => hdst' j i oj o d hj hin hji hoj ho' hd (by rw [hdo, h])
      rw [slot_put_other hne]
      exact hold
 have inv0 : HeadInv .any l.toArray n (Array.replicate l.toArray.size false) :=
  ⟨by simp, fun j oj _ hl => (by rw [getD_replicate_false] at hl; cases hl), fun t _ ht => getD_in (by simpa using ht) (getD_replicate_false _ _)⟩
 have := key n _ a₀ w inv0 (by
  have : ((List.range n).filter fun i => !(Array.replicate l.toArray.size false).getD i false) = List.range n := List.filter_eq_self.2 (fun i _ => by rw [getD_replicate_false]; rfl)
  rw [this, List.length_range]) hG ⟨rfl, rfl, fun _ _ => rfl⟩ (fun j oj d _ _ hl => by rw [getD_replicate_false] at hl; cases hl)
 rw [show n + (l.length - n) = l.toArray.size by simp; omega] at this
 exact this
def guardsU (D : Nat → Value → World → Prop) : List Bool → List Oper → Prop
 | _, [] => True
 | sks, o :: os => (match o.guard with
   | none => sks.headD false = false
   | some (j, b) => ∀ v W, D j v W → if sks.headD false then v ≠ .bool b else v = .bool b) ∧ guardsU D sks.tail os
theorem guardsU_get {D : Nat → Value → World → Prop} : ∀ (os : List Oper) (sks : List Bool), guardsU D sks os → ∀ (i : Nat) (o : Oper), os[i]? = some o → (skAt sks i = true → o.guard ≠ none) ∧ ∀ j b, o.guard = some (j, b) → ∀ v W, D j v W → if skAt sks i then v ≠ .bool b else v = .bool b
 | [], _, _, i, o, h => by simp at h
 | x :: os, sks, hs, 0, o, h => by
  simp at h; subst h
  have := hs.1
  rw [skAt_zero]
  cases hg : x.guard with
  | none =>
   rw [hg] at this
   exact ⟨fun e => (by rw [this] at e; cases e), fun j b e => (by cases e)⟩
  | some jb =>
   rw [hg] at this
   exact ⟨fun _ e => (by cases e), fun j b e => (by cases e; exact this)⟩
 | x :: os, sks, hs, i + 1, o, h => by
  rw [skAt_succ]
  exact guardsU_get os sks.tail hs.2 i o (by simpa using h)
def skWordsU : List Bool → List (Value → World → Prop) → Prop
 | _, [] => True
 | sks, p :: ps => (sks.headD false = true → ∀ W, p undef W) ∧ skWordsU sks.tail ps
theorem skWordsU_get : ∀ (ps : List (Value → World → Prop)) (sks : List Bool), skWordsU sks ps → ∀ i W, skAt sks i = true → pickD ps i undef W
 | [], _, _, _, _, _ => trivial
 | p :: ps, sks, hs, 0, W, h => hs.1 (by rw [← skAt_zero]; exact h) W
 | p :: ps, sks, hs, i + 1, W, h => skWordsU_get ps sks.tail hs.2 i W (by rw [← skAt_succ]; exact h)
theorem region_told_u {l : List Oper} (n : Nat) {Q : Exit → Act → World → Prop} {a₀ : Act} {w : World} (hB : relG l n = true) (hz : szOk a₀.tmps.size (l.take n) = true) (sks : List Bool)
  (G : World → Prop) (Rl : World → World → Prop) (ps : List (Value → World → Prop)) (hgd : guardsU (pickD ps) sks (l.take n)) (hws : skWordsU sks ps)
  (hRt : ∀ {A B C : World}, Rl A B → Rl B C → Rl A C) (hDs : ∀ i v W W', pickD ps i v W → Rl W W' → pickD ps i v W')
  (hG : G w) (hR0 : Rl w w) (hstep : stepsOkS P l n Q a₀ w G Rl (pickD ps) sks 0 (l.take n))
  (htail : ∀ W, G W → Rl w W → tailsOk (pickD ps) W (fun a => wpList P l.toArray Q (l.drop n) a W) 0 (l.take n) a₀) :
  wpAny P .any l.toArray Q l.toArray.size (Array.replicate l.toArray.size false) a₀ w := by
 have htake : ∀ (i : Nat) (o : Oper), i < n → l[i]? = some o → (l.take n)[i]? = some o := fun i o hi ho => by rw [List.getElem?_take, if_pos hi]; exact ho
 have hback : ∀ (i : Nat) (o : Oper), i < n → l[i]? = some o → ∀ e ∈ o.after, Region.binds .any e = true → e.on < n := by
  have hB' := hB
  simp only [relG, Bool.and_eq_true, decide_eq_true_eq] at hB'
  obtain ⟨⟨⟨⟨⟨_, _⟩, _⟩, hback⟩, _⟩, _⟩ := hB'
  intro i o hi ho e he hbd
  have := List.all_eq_true.1 hback i (List.mem_range.2 (List.getElem?_eq_some_iff.1 ho).1)
  simp only [ho, Bool.and_eq_true, Array.all_eq_true_iff_forall_mem] at this
  have h2 : e.on < i := by simpa [hbd] using this.1 e he
  omega
 refine region_rel_u hB (skAt sks) (fun W => G W ∧ Rl w W) (fun _ => Rl) (pickD ps) (fun i o j b hi ho hg => (guardsU_get _ _ hgd i o (htake i o hi ho)).2 j b hg) (fun i o hi ho hs => (guardsU_get _ _ hgd i o (htake i o hi ho)).1 hs) (fun i W hs => skWordsU_get ps sks hws i W hs) (fun _ j v W W' _ _ => hDs j v W W') (fun i o d hi ho hd => sz_of _ hz i o d (htake i o hi ho) hd) ⟨hG, hR0⟩ ?_ ?_
 ·rintro i o hi ho hski _ a W _ _ ⟨hGW, hRW⟩ hO hp
  have := stepsS_get _ _ _ hstep i o (htake i o hi ho)
  rw [Nat.zero_add] at this
  rcases this with h | this
  ·rw [h] at hski; cases hski
  refine Oper.wp_mono ?_ (this a W hGW hRW hO (preds_of o (hback i o hi ho) hp))
  rintro a' W' ⟨v, h1, h2, h3, h4⟩
  exact ⟨v, h1, h2, h3, h4, hRt hRW h3⟩
 ·rintro _ a W ⟨hGW, hRW⟩ hO hd
  have hh := heads_of (D := pickD ps) (a := a) (W := W) (l.take n) 0 fun j oj d hj hdd => by
   rw [List.getElem?_take] at hj
   split at hj
   ·rename_i hjn
    rw [Nat.zero_add]
    exact hd j oj d hjn hj hdd
   ·cases hj
  have := tails_filled _ _ _ hh (htail W hGW hRW)
  rwa [filled_eq hO] at this
end

end

section
open Go.RowKit
open Go.ChangeMaps (setBlock)
section
theorem cell_of_same {w W : World} {k : Nat} (h : W.heap[k]? = w.heap[k]?) (o : Nat) : W.cell? ⟨k, o, none⟩ = w.cell? ⟨k, o, none⟩ := by simp [World.cell?, h]
theorem wp_append_one {P : Program} {w : World} {o : Oper} {a : Act} {K : Act → World → Prop} {Q : Exit → Act → World → Prop} (s x : Operand) (t : TypeId)
  (ho : o.op = .call { callee := .builtin .append, args := #[s, x], argTypes := #[t, t] })
  (base : Nat) (e : TypeId) (i : TypeInfo) (z : Value) (bytes : Nat) (ht : P.underlying t = some (.slice e)) (hi : P.info? e = some i) (hz : i.zero = some z) (hsize : i.size = 1) (hby : i.bytes = bytes) (hzs : z.cells.size = 1)
  (A : Option Addr) (n c : Nat) (xs : List Value) (hs : a.eval s = .slice A n c) (hown : w.ownsRow base e 1 (.slice A n c) n xs)
  (ad : Addr) (c2 : Nat) (y : Value) (hx : a.eval x = .slice (some ad) 1 c2) (hy : w.cell? ad = some y) (hy1 : y.oneCell' = true)
  (h63 : n + 1 ≤ maxLen) (hbytes : (n + 1) * bytes ≤ 140737488355328) (hbase : base ≤ w.heap.size)
  (h : ∀ g c' w', w'.ownsRow base e 1 (.slice (some ⟨g, 0, none⟩) (n + 1) c') (n + 1) (xs ++ [y]) → ((A = some ⟨g, 0, none⟩ ∧ c' = c ∧ w.grownBy w' (some g)) ∨ (w.heap.size ≤ g ∧ w.grownBy w' none)) → K (a.put o.dst (.slice (some ⟨g, 0, none⟩) (n + 1) c')) w') : o.wp P a w K Q := by
 have hnews : ∀ j u, [y][j]? = some u → w.cell? (ad.add j) = some u := by
  intro j u hu
  obtain rfl : j = 0 := by
   rcases j with _ | j
   ·rfl
   ·simp at hu
  simp only [List.getElem?_cons_zero, Option.some.injEq] at hu
  subst hu
  rw [show ad.add 0 = ad by unfold Addr.add; split <;> simp_all]
  exact hy
 have h1 : ∀ u ∈ [y], u.oneCell' = true := fun u hu => by rw [List.mem_singleton.1 hu]; exact hy1
 rcases hown.2 with ⟨h0, hn0⟩ | ⟨g, cap, cur, hv, hb, hg, hnc, hcm, hcs, htk⟩
 ·injection h0 with e1 e2 e3
  subst e1 e2 e3
  refine wp_append_lies w s x t ho base e i z 1 bytes ht hi hz hsize hby hzs (by omega) (.slice none 0 0) 0 xs hs hown ad 1 c2 [y] hx rfl hnews h1 (by omega) h63 hbytes hbase w.heap.size rfl ?_
  intro g cap w' hown2 hgrow hat _
  refine h g cap w' hown2 (.inr ⟨?_, hgrow⟩)
  rcases hat with hat | hat
  ·simp [Value.ownBlock] at hat
  ·omega
 ·injection hv with e1 e2 e3
  subst e1 e3
  by_cases hroom : n + 1 ≤ c
  ·refine wp_append_own_spare w s x t ho base e i 1 ht hi hsize g n c xs hs hown ad 1 c2 [y] hx rfl hnews h1 hroom ?_
   intro w' hown2 hgrow
   exact h g c w' hown2 (.inl ⟨rfl, rfl, hgrow⟩)
  ·have holds : ∀ j u, xs[j]? = some u → w.cell? ((⟨g, 0, none⟩ : Addr).add j) = some u := hown.cells (g := g) rfl
   obtain ⟨v', w', hr, h2, h3⟩ := run_append_arg_grows (P := P) w t o.type e i z 1 bytes ht hi hz hsize hby hzs (by omega) ⟨g, 0, none⟩ n c xs hown.1 holds ad 1 c2 [y] rfl hnews (by omega) h63 hbytes
   obtain ⟨g2, cap, rfl, hg2, _⟩ := h2.form (by omega)
   unfold Oper.wp execOp
   simp only [ho, resolve, invoke, builtin, Sem.run_bind, Sem.run_pure, Result.andThen_ok, List.map_toArray, List.map_cons, List.map_nil, hs, hx, hr]
   exact h g2 cap w' (own_more h2 hbase) (.inr ⟨hg2, h3⟩)
end
section
def Onto1 (A : Option Addr) (c g c' : Nat) (w w' : World) : Prop := (A = some ⟨g, 0, none⟩ ∧ c' = c ∧ w.grownBy w' (some g)) ∨ (w.heap.size ≤ g ∧ w.grownBy w' none)
theorem Onto1.grown {A : Option Addr} {c n g c' : Nat} {w w' : World} (h : Onto1 A c g c' w w') : w.grownBy w' (Value.slice A n c).ownBlock := by
 rcases h with ⟨rfl, _, h⟩ | ⟨_, h⟩
 ·exact h
 ·exact h.but _
end
end
section
open Go.RowKit Go.Deep
open Go.ChangeMaps (setBlock)
theorem Onto1.next {A : Option Addr} {c g c' : Nat} {w W W' : World} (h : Onto1 A c g c' w W) (hb : newer W W') : Onto1 A c g c' w W' := by
 rcases h with ⟨h1, h2, h3⟩ | ⟨h1, h2⟩
 ·exact .inl ⟨h1, h2, grown_below h3 hb⟩
 ·exact .inr ⟨h1, grown_below h2 hb⟩
theorem Onto1.ahead {A : Option Addr} {c g c' : Nat} {w W W' : World} (hb : newer w W) (h : Onto1 A c g c' W W') : Onto1 A c g c' w W' := by
 rcases h with ⟨h1, h2, h3⟩ | ⟨h1, h2⟩
 ·exact .inl ⟨h1, h2, grown_trans' (grown_of_newer hb _) h3⟩
 ·exact .inr ⟨Nat.le_trans hb.size h1, grown_trans' (grown_of_newer hb _) h2⟩
end


section
open Go.RowKit Go.Shelf Go.Deep
def markD (D : Nat) : Deferred := { target := .collected D, args := #[] }
structure MarksOk (Ds : List Nat) (W : World) : Prop where
 nd : Ds.Nodup
 at_ : ∀ D ∈ Ds, W.heap[D]? = some (.deferred (some []))
theorem MarksOk.lt {Ds : List Nat} {W : World} (h : MarksOk Ds W) : ∀ D ∈ Ds, D < W.heap.size := fun D hD => (Array.getElem?_eq_some_iff.1 (h.at_ D hD)).1
theorem MarksOk.next {Ds : List Nat} {W W' : World} (h : MarksOk Ds W) (hb : newer W W') : MarksOk Ds W' := ⟨h.nd, fun D hD => (hb.block D (h.lt D hD)).trans (h.at_ D hD)⟩
theorem MarksOk.grown {Ds : List Nat} {W W' : World} {d : Nat} (h : MarksOk Ds W) (hg : W.grownBy W' (some d)) (hd : d ∉ Ds) : MarksOk Ds W' := ⟨h.nd, fun D hD => (hg.block D (h.lt D hD) (by intro e; injection e with e; rw [e] at hD; exact hd hD)).trans (h.at_ D hD)⟩
theorem MarksOk.far {Ds : List Nat} {W : World} (h : MarksOk Ds W) {k : Nat} {t : TypeId} {cs : Array Value} (hw : Whole W k t cs) : k ∉ Ds := fun hm => by
 have := h.at_ k hm
 unfold Whole at hw
 rw [hw] at this
 cases this
theorem newer_shut {Ds : List Nat} {w W W2 : World} (hn : newer w W) (hge : ∀ D ∈ Ds, w.heap.size ≤ D) (h1 : W2.os = W.os) (h2 : W2.tape = W.tape) (h3 : W2.output = W.output) (h4 : W2.heap.size = W.heap.size) (h5 : ∀ k, k ∉ Ds → W2.heap[k]? = W.heap[k]?) : newer w W2 :=
 ⟨h1.trans hn.os, h2.trans hn.tape, h3.trans hn.output, by rw [h4]; exact hn.size, fun k hk => (h5 k (fun hm => by have := hge k hm; omega)).trans (hn.block k hk)⟩
theorem leaves_marks {F : Fence} {n : Nat} {P : Program} {fn : Func} {tmps : Array Value} {R : Ending → World → Prop} : ∀ (Ds : List Nat) (W : World), MarksOk Ds W →
  (∀ W', W'.os = W.os → W'.tape = W.tape → W'.output = W.output → W'.heap.size = W.heap.size → (∀ k, k ∉ Ds → W'.heap[k]? = W.heap[k]?) → ∃ v, (results fn tmps).run P W' = .ok v W' ∧ R (.returned v) W') → LeavesInM F n P fn tmps R (Ds.map markD) .returning W
 | [], W, _, h => h W rfl rfl rfl rfl fun _ _ => rfl
 | D :: Ds, W, hm, h => by
  have hnd := List.nodup_cons.1 hm.nd
  refine ⟨by simp, .inl ⟨D, _, rfl, run_takeDeferred (hm.at_ D (by simp)), leaves_marks Ds _ ⟨hnd.2, fun E hE => ?_⟩ fun W' h1 h2 h3 h4 h5 => h W' h1 h2 h3 (h4.trans (by simp)) fun k hk => ?_⟩⟩
  ·exact (World.putObj_heap_other (fun e => hnd.1 (by rw [← e]; exact hE))).trans (hm.at_ E (List.mem_cons_of_mem _ hE))
  ·rw [List.mem_cons, not_or] at hk
   exact (h5 k hk.2).trans (World.putObj_heap_other hk.1)
end


section
open Go.RowKit Go.Deep
theorem wp_append_owncopy {α : Type} {enc : α → List Value} {size : Nat} {P : Program} {w : World} {o : Oper} {a : Act} {K : Act → World → Prop} {Q : Exit → Act → World → Prop} (base : Nat) (s x : Operand) (t e : TypeId) (i0 : TypeInfo) (z : Value) (bytes : Nat)
  (ht : P.underlying t = some (.slice e)) (hi0 : P.info? e = some i0) (hz0 : i0.zero = some z) (hz1 : i0.size = size) (hz2 : i0.bytes = bytes) (hzs : z.cells.size = size) (hs0 : 0 < size) (hby : bytes ≤ 1000) (he : ∀ x, (enc x).length = size)
  (ho : o.op = .call { callee := .builtin .append, args := #[s, x], argTypes := #[t, t] }) (nb : Nat) (hs : a.eval s = .slice (some ⟨nb, 0, none⟩) 0 0) (hnb : base ≤ nb) (hwn : Whole w nb e #[])
  (l : List α) (A : Option Addr) (cp : Nat) (hx : a.eval x = .slice A l.length cp) (hl : l.length ≤ 1000) (hr : Row enc size w w.heap.size A l) (hbase : base ≤ w.heap.size)
  (h : ∀ B c w', w'.ownsRow base e size (.slice B l.length c) l.length (l.flatMap enc) → Below w.heap.size w w' → l.length ≤ c → K (a.put o.dst (.slice B l.length c)) w') : Oper.wp P o a w K Q := by
 rcases Nat.eq_zero_or_pos l.length with h0 | hpos
 ·obtain rfl : l = [] := List.eq_nil_of_length_eq_zero h0
  have hrun : (Builtin.append_ #[t, t] o.type #[.slice (some ⟨nb, 0, none⟩) 0 0, .slice A 0 cp]).run P w = .ok (.slice (some ⟨nb, 0, none⟩) 0 0) w := by
   have hu := run_underlying (P := P) (w := w) ht
   rcases A with _ | ad <;> simp [Builtin.append_, hu, sizeOf, typeInfo, hi0, Builtin.lenOf, Builtin.firstCells, loadCells, loadCellsFrom, storeCells]
  unfold Oper.wp
  simp [execOp, ho, resolve, invoke, builtin, hs, hx, hrun, Result.andThen]
  exact h _ _ w ⟨by simp, .inr ⟨nb, 0, #[], rfl, hnb, hwn, Nat.le_refl _, by unfold maxLen; omega, by simp, by simp⟩⟩ (Below.refl _ _) (Nat.le_refl _)
 ·obtain ⟨b, off, rfl, hb, hc⟩ := hr (by intro e; rw [e] at hpos; simp at hpos)
  refine wp_append_new s x t ho e i0 z size bytes ht hi0 hz0 hz1 hz2 hzs hs0 ⟨nb, 0, none⟩ hs ⟨b, off, none⟩ l.length cp (l.flatMap enc) hx (by rw [flat_len (enc := enc) (s := size) he]) (row_news (enc := enc) (s := size) hs0 he hr) hpos (by unfold maxLen; omega) (by have := Nat.mul_le_mul hl hby; omega) ?_
  intro gg cap w' hown hbl
  exact h _ _ w' (own_more hown hbase) hbl (own_room hown).1
def vOwn {α : Type} (B : Nat) (e : TypeId) (size : Nat) (enc : α → List Value) (l : List α) (v : Value) (W : World) : Prop := ∃ A c, v = .slice A l.length c ∧ W.ownsRow B e size (.slice A l.length c) l.length (l.flatMap enc)
theorem vOwn_st {α : Type} {B : Nat} {e : TypeId} {size : Nat} {enc : α → List Value} {l : List α} : ∀ v W W', vOwn B e size enc l v W → newer W W' → vOwn B e size enc l v W' := fun _ _ _ ⟨A, c, h1, h2⟩ hb => ⟨A, c, h1, own_below h2 hb⟩
section
theorem own_apart {w : World} {base base' : Nat} {e e' : TypeId} {size size' n n' : Nat} {v v' : Value} {xs xs' : List Value} (h : w.ownsRow base e size v n xs) (h' : w.ownsRow base' e' size' v' n' xs') (hne : e ≠ e') : v.ownBlock = none ∨ v.ownBlock ≠ v'.ownBlock := by
 rcases Option.eq_none_or_eq_some v.ownBlock with h0 | ⟨q, h0⟩
 ·exact .inl h0
 ·exact .inr fun h2 => own_own_ne h h' hne q h0 (h2 ▸ h0)
end
end





section
open Go.ChangeShapes Go.WideShapes Go.ChangeAt Go.RowKit Go.Deep
structure Hlf where
 n : Int
 lo : 0 ≤ n
 hi : n ≤ 65535
abbrev hwL (x : Hlf) : List Value := [.int .u16 x.n]
end
section
theorem own_some {w : World} {base : Nat} {e : TypeId} {size n cap : Nat} {A : Option Addr} {xs : List Value} (h : w.ownsRow base e size (.slice A n cap) n xs) (hn : 0 < n) : ∃ g, A = some ⟨g, 0, none⟩ ∧ base ≤ g := by
 rcases h.2 with ⟨_, h0⟩ | ⟨g, cap', cur, h', hb, _⟩
 ·omega
 ·simp only [Value.slice.injEq, true_and] at h'
  exact ⟨g, h'.1, hb⟩
end





section
open Go.ChangeShapes Go.WideShapes Go.ChangeAt Go.RowKit Go.Deep
theorem own_of_whole {w : World} {base g : Nat} {t : TypeId} {cs : Array Value} {n : Nat} (h : Whole w g t cs) (hb : base ≤ g) (hn : cs.size = n) (hm : n ≤ maxLen) : w.ownsRow base t 1 (.slice (some ⟨g, 0, none⟩) n n) n cs.toList :=
 ⟨by simp [hn], .inr ⟨g, n, cs, rfl, hb, h, Nat.le_refl _, hm, by simp [hn], by rw [Nat.mul_one, List.take_of_length_le (by simp [hn])]⟩⟩
end





section
open Go.RowKit Go.Deep

end
section
open Go.RowKit Go.Deep
theorem kY {P : Program} {o : Oper} {a : Act} {W : World} {D : Value → World → Prop} {G : World → Prop} {Q : Exit → Act → World → Prop} {v : Value} (hG : G W) (hD : D v W) (h : (execOp a.eval o).run P W = .ok (.value v) W) : o.wp P a W (fun a' W' => ∃ v', a' = a.put o.dst v' ∧ D v' W' ∧ newer W W' ∧ G W') Q := wp_yields h ⟨v, rfl, hD, Below.refl _ _, hG⟩
theorem kM {P : Program} {o : Oper} {a : Act} {W : World} {D : Value → World → Prop} {G : World → Prop} {Q : Exit → Act → World → Prop} {v : Value} (t : Tmp) (ho : o.op = .move (.tmp t)) (h : slotOf a t = v) (hD : D v W) (hG : G W) : o.wp P a W (fun a' W' => ∃ v', a' = a.put o.dst v' ∧ D v' W' ∧ newer W W' ∧ G W') Q := by
 refine wp_yields (v := v) ?_ ⟨v, rfl, hD, Below.refl _ _, hG⟩
 unfold execOp
 rw [ho]
 simp only [slotOf] at h
 simp [go_sem, h]
end
end Go.Proofs.Ytpmafnifgegfbaa
