/- Laws that no layer owns: rows, blocks, drawn regions by words, appends, maps. -/
import Derived.Deep.CutBlock
import Derived.Laws.Cells
import Derived.Laws.Tables
import Derived.Laws.Rows
import Derived.DeepKeys3
import Derived.RangeFuncBound
import Derived.Shelf.Abstract
import Derived.Shelf.RegionOpen
import Derived.OwnWalkIn
import Derived.TacticsInMore
import Derived.LoopNIn
import Derived.LoopIn
import Derived.Deep.DeepAppendRoom
import Derived.ArgAppend
import Derived.Deep.DeepCutAuto
import Derived.Great.BuildSlice
import Derived.Laws.OwnMore
import Derived.WalkMore
import Derived.Test.YtkenokpobbichaaG
namespace Go.Proofs.Ytkenokpobbichaa
section
open Go.RowKit
abbrev boL (b : Bool) : List Value := [.bool b]
theorem rowB {w : World} {B : Nat} {A : Option Addr} {l : List Bool} (h : Row boL 1 w B A l) {k : Nat} {c : Bool} (hk : l[k]? = some c) :
    ∃ b off, A = some ⟨b, off, none⟩ ∧ b < B ∧ w.cell? ⟨b, off + k, none⟩ = some (.bool c) := by
  obtain ⟨b, off, e, hb, hc⟩ := h (ne_nil_of_get hk)
  exact ⟨b, off, e, hb, by simpa using hc k c hk 0 _ rfl⟩
end

section
open Go.RowKit
theorem hrow_ok {α : Type} {enc : α → List Value} {s : Nat} {w : World} {A : Option Addr} {l : List α} (h : Row enc s w w.heap.size A l) (o : Obj) : Row enc s (w.alloc o) (w.alloc o).heap.size A l := row_alloc h o
end

section
open Go.RowKit
theorem all_map {α β : Type} (f : α → β) (p : β → Bool) (l : List α) : (l.map f).all p = l.all fun x => p (f x) := by rw [List.all_map]; rfl
end

section
open Go.RowKit
theorem mul_bd {a d A D : Int} (h0 : 0 ≤ a) (h1 : a ≤ A) (h2 : 0 ≤ d) (h3 : d ≤ D) : 0 ≤ a * d ∧ a * d ≤ A * D :=
  ⟨Int.mul_nonneg h0 h2, Int.le_trans (Int.mul_le_mul_of_nonneg_right h1 h2) (Int.mul_le_mul_of_nonneg_left h3 (by omega))⟩
end

section
open Go.RowKit
theorem zip_at {α β : Type} {l : List α} {m : List β} {k : Nat} {x : α} {y : β} (h1 : l[k]? = some x) (h2 : m[k]? = some y) : (l.zip m)[k]? = some (x, y) := by
  rw [List.getElem?_zip_eq_some]
  exact ⟨h1, h2⟩
theorem all_bad {α : Type} {l : List α} {p : α → Bool} {k : Nat} {x : α} (h : l[k]? = some x) (hx : p x = false) : l.all p = false := by
  rw [List.all_eq_false]
  exact ⟨x, List.mem_of_getElem? h, by simp [hx]⟩
theorem all_early {α : Type} {l : List α} {p : α → Bool} (h : early (fun x => !p x) l l.length) : l.all p = true := by
  rw [List.all_eq_true]
  intro x hx
  obtain ⟨j, hj⟩ := List.mem_iff_getElem?.1 hx
  have := h j x (List.getElem?_eq_some_iff.1 hj).1 hj
  simpa using this
end

section
open Go.RowKit
theorem Row.take {α : Type} {enc : α → List Value} {s B : Nat} {w : World} {A : Option Addr} {l : List α} (h : Row enc s w B A l) (k : Nat) : Row enc s w B A (l.take k) := by
  intro hne
  obtain ⟨b, off, e, hb, hc⟩ := h (by rintro rfl; simp at hne)
  refine ⟨b, off, e, hb, fun j x hx => hc j x ?_⟩
  rw [List.getElem?_take] at hx
  split at hx
  · exact hx
  · cases hx
theorem take_bd {l : List Int} {B : Int} (h : ∀ x ∈ l, 0 ≤ x ∧ x ≤ B) (k : Nat) : ∀ x ∈ l.take k, 0 ≤ x ∧ x ≤ B := fun x hx => h x (List.mem_of_mem_take hx)
end

section
open Go.RowKit Go.Deep
theorem Whole.setRow {W : World} {b : Nat} {t : TypeId} {cs : Array Value} (h : Whole W b t cs) (vs : Array Value) : Whole (W.setRow b vs) b t vs := by
  unfold Whole at h ⊢
  simp [World.setRow, Array.getElem?_modify, h]
theorem below_setRow {B : Nat} {w W : World} {b : Nat} (h : Below B w W) (hb : B ≤ b) (vs : Array Value) : Below B w (W.setRow b vs) :=
  ⟨h.os, h.tape, h.output, by simpa [World.setRow] using h.size, fun i hi => by
    rw [← h.block i hi]
    simp only [World.setRow, Array.getElem?_modify]
    rw [if_neg (by omega)]⟩
end

section
section
open Go.RowKit
variable {P : Program}
theorem yielded_ne {l : List Oper} {tmps : Array Value} {j : Nat} {dj : Tmp} {oj : Oper} {b : Bool} {v : Value} (hoj : l[j]? = some oj) (hd : oj.dst = some dj) (ht : tmps[dj]? = some v) (hv : v ≠ .bool b) : yielded l.toArray tmps j ≠ some b := by
  have e : (((l.toArray)[j]?).bind (·.dst)).bind (tmps[·]?) = some v := by
    simp only [List.getElem?_toArray, hoj, Option.bind_some, hd, ht]
  unfold yielded
  rw [e]
  intro h
  cases v with
  | bool b' => cases h; exact hv rfl
  | _ => cases h
theorem region_rel_u {l : List Oper} {n : Nat} {Q : Exit → Act → World → Prop} {a₀ : Act} {w : World} (hB : relG l n = true)
    (sk : Nat → Bool) (G : World → Prop) (Rl : Nat → World → World → Prop) (D : Nat → Value → World → Prop)
    (hgd : ∀ (i : Nat) (o : Oper) (j : Nat) (b : Bool), i < n → l[i]? = some o → o.guard = some (j, b) → ∀ v W, D j v W → if sk i then v ≠ .bool b else v = .bool b)
    (hsk : ∀ (i : Nat) (o : Oper), i < n → l[i]? = some o → sk i = true → o.guard ≠ none) (hDsk : ∀ i W, sk i = true → D i undef W)
    (hDs : ∀ i j v W W', i < n → j ≠ i → D j v W → Rl i W W' → D j v W')
    (hsz : ∀ i o d, i < n → l[i]? = some o → o.dst = some d → d < a₀.tmps.size)
    (hG : G w)
    (hstep : ∀ i o, i < n → l[i]? = some o → sk i = false → ∀ (listed : Array Bool) a W, listed.size = l.length → listed.getD i true = false → G W → Outer l n a₀ a →
      (∀ j oj d, j < n → l[j]? = some oj → oj.dst = some d → (∃ e ∈ o.after, Region.binds .any e = true ∧ e.on = j) → D j (slotOf a d) W) →
      o.wp P a W (fun a' W' => ∃ v, a' = a.put o.dst v ∧ D i v W' ∧ Rl i W W' ∧ G W') Q)
    (htail : ∀ (_ : Array Bool) a W, G W → Outer l n a₀ a → (∀ j oj d, j < n → l[j]? = some oj → oj.dst = some d → D j (slotOf a d) W) → wpList P l.toArray Q (l.drop n) a W) :
    wpAny P .any l.toArray Q l.toArray.size (Array.replicate l.toArray.size false) a₀ w := by
  simp only [relG, Bool.and_eq_true, decide_eq_true_eq] at hB
  obtain ⟨⟨⟨⟨⟨hn, hs⟩, hc⟩, hback⟩, hdst⟩, hseq⟩ := hB
  have hback' : ∀ (i : Nat) (o : Oper), l[i]? = some o → (∀ e ∈ o.after, Region.binds .any e = true → e.on < i) ∧ (∀ j b, o.guard = some (j, b) → j < i ∧ (∃ e ∈ o.after, Region.binds .any e = true ∧ e.on = j) ∧ ∃ oj dj, l[j]? = some oj ∧ oj.dst = some dj) := by
    intro i o ho
    have := List.all_eq_true.1 hback i (List.mem_range.2 (List.getElem?_eq_some_iff.1 ho).1)
    simp only [ho, Bool.and_eq_true, Array.all_eq_true_iff_forall_mem] at this
    refine ⟨fun e he hb => by simpa [hb] using this.1 e he, fun j b hg => ?_⟩
    have h2 := this.2
    rw [hg] at h2
    simp only [Bool.and_eq_true, decide_eq_true_eq, List.any_eq_true, beq_iff_eq] at h2
    obtain ⟨⟨h3, e, he, hb, hon⟩, h4⟩ := h2
    refine ⟨h3, ⟨e, Array.mem_toList_iff.1 he, hb, hon⟩, ?_⟩
    cases hj : l[j]? with
    | none => rw [hj] at h4; cases h4
    | some oj =>
      rw [hj] at h4
      obtain ⟨dj, hdj⟩ := Option.isSome_iff_exists.1 h4
      exact ⟨oj, dj, rfl, hdj⟩
  have hdst' : ∀ (i j : Nat) (o o' : Oper) (d : Tmp), i < n → j < n → i ≠ j → l[i]? = some o → l[j]? = some o' → o.dst = some d → o'.dst ≠ some d := by
    intro i j o o' d hi hj hij ho ho' hd hd'
    have := List.all_eq_true.1 (List.all_eq_true.1 hdst i (List.mem_range.2 hi)) j (List.mem_range.2 hj)
    simp [hij, ho, ho', hd, hd'] at this
  have key : ∀ (f : Nat) (listed : Array Bool) (a : Act) (W : World), HeadInv .any l.toArray n listed → ((List.range n).filter fun i => !listed.getD i false).length = f →
      G W → Outer l n a₀ a → (∀ (j : Nat) (oj : Oper) (d : Tmp), j < n → l[j]? = some oj → listed.getD j false = true → oj.dst = some d → D j (slotOf a d) W) →
      wpAny P .any l.toArray Q (f + (l.length - n)) listed a W := by
    intro f
    induction f with
    | zero =>
      intro listed a W inv hcnt hGW hO hD
      have hall : ∀ i, i < n → listed.getD i false = true := by
        intro i hi
        have := List.eq_nil_of_length_eq_zero hcnt
        have h2 := List.filter_eq_nil_iff.1 this i (List.mem_range.2 hi)
        simpa using h2
      have hcanon : listed = headDone n l.length := by
        apply Array.ext
        · rw [inv.size]; simp [headDone]
        · intro i h1 h2
          have hi : i < l.length := by simpa [headDone] using h2
          simp only [headDone, Array.getElem_ofFn]
          by_cases hin : i < n
          · have := hall i hin
            simp [h1] at this
            simp [this, hin]
          · have := inv.tail i (by omega) (by simpa using hi)
            simp [h1] at this
            simp [this, hin]
      rw [Nat.zero_add]
      have := wpAny_of_seq (md := .any) (Q' := Q) (P := P) (ops := l.toArray) (l.drop n) n listed a W (fun j => by simp [List.getElem?_drop]) (by rw [List.length_drop, hcanon]; exact hseq) (htail listed a W hGW hO (fun j oj d hj ho hd => hD j oj d hj ho (hall j hj) hd))
      rwa [List.length_drop] at this
    | succ f ih =>
      intro listed a W inv hcnt hGW hO hD
      -- some operation of the head has not come up
      have hex : ∃ i, i < n ∧ listed.getD i false = false ∧ ∀ j, j < i → listed.getD j false = true := by
        have hne : ((List.range n).filter fun i => !listed.getD i false) ≠ [] := by intro h; rw [h] at hcnt; cases hcnt
        have : ∃ i, i < n ∧ listed.getD i false = false := by
          obtain ⟨x, hx⟩ := List.exists_mem_of_ne_nil _ hne
          have hx' := List.mem_filter.1 hx
          exact ⟨x, List.mem_range.1 hx'.1, by simpa using hx'.2⟩
        obtain ⟨i, hi, hl⟩ := this
        have : ∀ k i, i ≤ k → i < n → listed.getD i false = false → ∃ i, i < n ∧ listed.getD i false = false ∧ ∀ j, j < i → listed.getD j false = true := by
          intro k
          induction k with
          | zero => intro i hik hi hl; exact ⟨i, hi, hl, fun j hj => by omega⟩
          | succ k ihk =>
            intro i hik hi hl
            by_cases h : ∃ j, j < i ∧ listed.getD j false = false
            · obtain ⟨j, hj, hjl⟩ := h
              exact ihk j (by omega) (by omega) hjl
            · refine ⟨i, hi, hl, fun j hj => ?_⟩
              cases hh : listed.getD j false with
              | true => rfl
              | false => exact absurd ⟨j, hj, hh⟩ h
        exact this i i (Nat.le_refl _) hi hl
      obtain ⟨i₀, hi₀, hun₀, hbelow⟩ := hex
      have hi₀s : i₀ < listed.size := by rw [inv.size]; simp; omega
      have hl₀ : listed.getD i₀ true = false := getD_in hi₀s hun₀
      have hready₀ : i₀ ∈ Region.ready .any l.toArray listed := by
        have ho : l[i₀]? = some l[i₀] := List.getElem?_eq_getElem (by omega)
        refine mem_ready.2 ⟨hl₀, l[i₀], by simp, fun e he hb => hbelow _ ((hback' i₀ _ ho).1 e he hb)⟩
      rw [show f + 1 + (l.length - n) = f + (l.length - n) + 1 by omega]
      refine ⟨fun h => (by rw [h] at hready₀; cases hready₀), fun i hi => ?_⟩
      have hin : i < n := by
        rcases Nat.lt_or_ge i n with h | h
        · exact h
        · exact absurd hi (tail_waits hs hc (by simpa using hn) inv _ i₀ rfl hi₀ hl₀ i h)
      obtain ⟨hiun, o, ho, hall⟩ := mem_ready.1 hi
      have ho' : l[i]? = some o := by simpa using ho
      unfold wpOp
      simp only [ho]
      have hgv : ∀ j b, o.guard = some (j, b) → if sk i then yielded l.toArray a.tmps j ≠ some b else yielded l.toArray a.tmps j = some b := by
        intro j b hg
        obtain ⟨hji, ⟨e, he, hb, hon⟩, oj, dj, hoj, hdj⟩ := (hback' i o ho').2 j b hg
        have hl := hall e he hb
        rw [hon] at hl
        have hv := hgd i o j b hin ho' hg _ _ (hD j oj dj (by omega) hoj hl hdj)
        have hsz' : dj < a.tmps.size := by rw [hO.size]; exact hsz j oj dj (by omega) hoj hdj
        have this : a.tmps[dj]? = some (slotOf a dj) := by
          unfold slotOf
          rw [Array.getElem?_eq_getElem hsz']
          rfl
        generalize slotOf a dj = v at hv this
        cases hsk' : sk i with
        | true =>
          rw [hsk'] at hv
          simp only [if_true] at hv ⊢
          exact yielded_ne hoj hdj this hv
        | false =>
          rw [hsk'] at hv
          simp only [Bool.false_eq_true, if_false] at hv ⊢
          subst hv
          simp [yielded, hoj, hdj, this]
      have hcount : ((List.range n).filter fun i_1 => !(listed.setIfInBounds i true).getD i_1 false).length = f := by
        have hiun' : listed.getD i false = false := getD_both hiun
        have his : i < listed.size := by rw [inv.size]; simp; omega
        have e1 : ((List.range n).filter fun j => !(listed.setIfInBounds i true).getD j false) = ((List.range n).filter fun j => !listed.getD j false).filter (fun j => decide (j ≠ i)) := by
          rw [List.filter_filter]
          apply List.filter_congr
          intro j _
          by_cases hji : j = i
          · subst hji; simp [his]
          · rw [getD_set_ne false (Ne.symm hji)]; simp [hji]
        rw [e1]
        have hnd : ((List.range n).filter fun j => !listed.getD j false).Nodup := List.nodup_range.filter _
        have hmem : i ∈ ((List.range n).filter fun j => !listed.getD j false) := List.mem_filter.2 ⟨List.mem_range.2 hin, by simp [hiun']⟩
        have := filter_ne_length i _ hnd hmem
        omega
      cases hski : sk i with
      | true =>
        have hw : ¬ Region.wanted o (yielded l.toArray a.tmps) = true := by
          unfold Region.wanted
          cases hg : o.guard with
          | none => exact absurd hg (hsk i o hin ho' hski)
          | some jb =>
            obtain ⟨j, b⟩ := jb
            have := hgv j b hg
            simp only [hski, if_true] at this
            simpa using this
        rw [if_neg hw]
        have hOut : Outer l n a₀ (a.put o.dst undef) := by
          refine ⟨?_, ?_, fun t ht => ?_⟩
          · cases hd : o.dst <;> simp [Act.put, hO.defers]
          · cases hd : o.dst <;> simp [Act.put, hO.size]
          · cases hd : o.dst with
            | none => simpa [Act.put] using hO.same t ht
            | some d =>
              have hne : d ≠ t := fun h => ht i o hin ho' (by rw [hd, h])
              simp only [Act.put]
              rw [Array.getElem?_setIfInBounds_ne hne]
              exact hO.same t ht
        refine ih _ _ _ (inv.set hi hin) hcount hGW hOut ?_
        intro j oj d hj hoj hlj hd
        by_cases hji : j = i
        · subst hji
          cases hd2 : o.dst with
          | none => have e9 : oj = o := Option.some.inj (hoj.symm.trans ho'); rw [e9, hd2] at hd; cases hd
          | some d9 =>
            have e9 : oj = o := Option.some.inj (hoj.symm.trans ho')
            rw [e9, hd2] at hd
            cases hd
            have hds : d < a.tmps.size := by rw [hO.size]; exact hsz j o d hj (e9 ▸ hoj) hd2
            rw [slot_put_same hds]
            exact hDsk _ _ hski
        · rw [getD_set_ne false (Ne.symm hji)] at hlj
          have hold := hD j oj d hj hoj hlj hd
          cases hdo : o.dst with
          | none => simpa [Act.put] using hold
          | some d' =>
            have hne : d ≠ d' := fun h => hdst' j i oj o d hj hin hji hoj ho' hd (by rw [hdo, h])
            rw [slot_put_other hne]
            exact hold
      | false =>
        have hst := hstep i o hin ho' hski listed a W (by rw [inv.size]; simp) hiun hGW hO (fun j oj d hj hoj hd ⟨e, he, hb, hon⟩ => hD j oj d hj hoj (by rw [← hon]; exact hall e he hb) hd)
        have hw : Region.wanted o (yielded l.toArray a.tmps) = true := by
          unfold Region.wanted
          cases hg : o.guard with
          | none => rfl
          | some jb =>
            obtain ⟨j, b⟩ := jb
            have := hgv j b hg
            simp only [hski, Bool.false_eq_true, if_false] at this
            simpa using this
        rw [if_pos hw]
        refine .inl (Oper.wp_mono ?_ hst)
        rintro a' W' ⟨v, rfl, hDv, hRv, hGv⟩
        have hOut : Outer l n a₀ (a.put o.dst v) := by
          refine ⟨?_, ?_, fun t ht => ?_⟩
          · cases hd : o.dst <;> simp [Act.put, hO.defers]
          · cases hd : o.dst <;> simp [Act.put, hO.size]
          · cases hd : o.dst with
            | none => simpa [Act.put] using hO.same t ht
            | some d =>
              have hne : d ≠ t := fun h => ht i o hin ho' (by rw [hd, h])
              simp only [Act.put]
              rw [Array.getElem?_setIfInBounds_ne hne]
              exact hO.same t ht
        refine ih _ _ _ (inv.set hi hin) hcount hGv hOut ?_
        intro j oj d hj hoj hlj hd
        by_cases hji : j = i
        · subst hji
          have : oj = o := Option.some.inj (hoj.symm.trans ho')
          subst this
          have hds : d < a.tmps.size := by rw [hO.size]; exact hsz j oj d hj hoj hd
          rw [hd, slot_put_same hds]
          exact hDv
        · rw [getD_set_ne false (Ne.symm hji)] at hlj
          have hold := hDs i j _ W W' hin hji (hD j oj d hj hoj hlj hd) hRv
          cases hdo : o.dst with
          | none => simpa [Act.put] using hold
          | some d' =>
            have hne : d ≠ d' := fun h => hdst' j i oj o d hj hin hji hoj ho' hd (by rw [hdo, h])
            rw [slot_put_other hne]
            exact hold
  have inv0 : HeadInv .any l.toArray n (Array.replicate l.toArray.size false) :=
    ⟨by simp, fun j oj _ hl => (by rw [getD_replicate_false] at hl; cases hl), fun t _ ht => getD_in (by simpa using ht) (getD_replicate_false _ _)⟩
  have := key n _ a₀ w inv0 (by
    have : ((List.range n).filter fun i => !(Array.replicate l.toArray.size false).getD i false) = List.range n := List.filter_eq_self.2 (fun i _ => by rw [getD_replicate_false]; rfl)
    rw [this, List.length_range]) hG ⟨rfl, rfl, fun _ _ => rfl⟩ (fun j oj d _ _ hl => by rw [getD_replicate_false] at hl; cases hl)
  rw [show n + (l.length - n) = l.toArray.size by simp; omega] at this
  exact this
/-- The words say of each guard whether it lets its operation come. -/
def guardsU (D : Nat → Value → World → Prop) : List Bool → List Oper → Prop
  | _, [] => True
  | sks, o :: os => (match o.guard with
      | none => sks.headD false = false
      | some (j, b) => ∀ v W, D j v W → if sks.headD false then v ≠ .bool b else v = .bool b) ∧ guardsU D sks.tail os
theorem guardsU_get {D : Nat → Value → World → Prop} : ∀ (os : List Oper) (sks : List Bool), guardsU D sks os → ∀ (i : Nat) (o : Oper), os[i]? = some o → (skAt sks i = true → o.guard ≠ none) ∧ ∀ j b, o.guard = some (j, b) → ∀ v W, D j v W → if skAt sks i then v ≠ .bool b else v = .bool b
  | [], _, _, i, o, h => by simp at h
  | x :: os, sks, hs, 0, o, h => by
    simp at h; subst h
    have := hs.1
    rw [skAt_zero]
    cases hg : x.guard with
    | none =>
      rw [hg] at this
      exact ⟨fun e => (by rw [this] at e; cases e), fun j b e => (by cases e)⟩
    | some jb =>
      rw [hg] at this
      exact ⟨fun _ e => (by cases e), fun j b e => (by cases e; exact this)⟩
  | x :: os, sks, hs, i + 1, o, h => by
    rw [skAt_succ]
    exact guardsU_get os sks.tail hs.2 i o (by simpa using h)
/-- Words of operations that do not come say nothing. -/
def skWordsU : List Bool → List (Value → World → Prop) → Prop
  | _, [] => True
  | sks, p :: ps => (sks.headD false = true → ∀ W, p undef W) ∧ skWordsU sks.tail ps
theorem skWordsU_get : ∀ (ps : List (Value → World → Prop)) (sks : List Bool), skWordsU sks ps → ∀ i W, skAt sks i = true → pickD ps i undef W
  | [], _, _, _, _, _ => trivial
  | p :: ps, sks, hs, 0, W, h => hs.1 (by rw [← skAt_zero]; exact h) W
  | p :: ps, sks, hs, i + 1, W, h => skWordsU_get ps sks.tail hs.2 i W (by rw [← skAt_succ]; exact h)
/-- A region that draws its order, by a word for each operation of its head; some do not come. -/
theorem region_told_u {l : List Oper} (n : Nat) {Q : Exit → Act → World → Prop} {a₀ : Act} {w : World} (hB : relG l n = true) (hz : szOk a₀.tmps.size (l.take n) = true) (sks : List Bool)
    (G : World → Prop) (Rl : World → World → Prop) (ps : List (Value → World → Prop)) (hgd : guardsU (pickD ps) sks (l.take n)) (hws : skWordsU sks ps)
    (hRt : ∀ {A B C : World}, Rl A B → Rl B C → Rl A C) (hDs : ∀ i v W W', pickD ps i v W → Rl W W' → pickD ps i v W')
    (hG : G w) (hR0 : Rl w w) (hstep : stepsOkS P l n Q a₀ w G Rl (pickD ps) sks 0 (l.take n))
    (htail : ∀ W, G W → Rl w W → tailsOk (pickD ps) W (fun a => wpList P l.toArray Q (l.drop n) a W) 0 (l.take n) a₀) :
    wpAny P .any l.toArray Q l.toArray.size (Array.replicate l.toArray.size false) a₀ w := by
  have htake : ∀ (i : Nat) (o : Oper), i < n → l[i]? = some o → (l.take n)[i]? = some o := fun i o hi ho => by rw [List.getElem?_take, if_pos hi]; exact ho
  have hback : ∀ (i : Nat) (o : Oper), i < n → l[i]? = some o → ∀ e ∈ o.after, Region.binds .any e = true → e.on < n := by
    have hB' := hB
    simp only [relG, Bool.and_eq_true, decide_eq_true_eq] at hB'
    obtain ⟨⟨⟨⟨⟨_, _⟩, _⟩, hback⟩, _⟩, _⟩ := hB'
    intro i o hi ho e he hbd
    have := List.all_eq_true.1 hback i (List.mem_range.2 (List.getElem?_eq_some_iff.1 ho).1)
    simp only [ho, Bool.and_eq_true, Array.all_eq_true_iff_forall_mem] at this
    have h2 : e.on < i := by simpa [hbd] using this.1 e he
    omega
  refine region_rel_u hB (skAt sks) (fun W => G W ∧ Rl w W) (fun _ => Rl) (pickD ps) (fun i o j b hi ho hg => (guardsU_get _ _ hgd i o (htake i o hi ho)).2 j b hg) (fun i o hi ho hs => (guardsU_get _ _ hgd i o (htake i o hi ho)).1 hs) (fun i W hs => skWordsU_get ps sks hws i W hs) (fun _ j v W W' _ _ => hDs j v W W') (fun i o d hi ho hd => sz_of _ hz i o d (htake i o hi ho) hd) ⟨hG, hR0⟩ ?_ ?_
  · rintro i o hi ho hski _ a W _ _ ⟨hGW, hRW⟩ hO hp
    have := stepsS_get _ _ _ hstep i o (htake i o hi ho)
    rw [Nat.zero_add] at this
    rcases this with h | this
    · rw [h] at hski; cases hski
    refine Oper.wp_mono ?_ (this a W hGW hRW hO (preds_of o (hback i o hi ho) hp))
    rintro a' W' ⟨v, h1, h2, h3, h4⟩
    exact ⟨v, h1, h2, h3, h4, hRt hRW h3⟩
  · rintro _ a W ⟨hGW, hRW⟩ hO hd
    have hh := heads_of (D := pickD ps) (a := a) (W := W) (l.take n) 0 fun j oj d hj hdd => by
      rw [List.getElem?_take] at hj
      split at hj
      · rename_i hjn
        rw [Nat.zero_add]
        exact hd j oj d hjn hj hdd
      · cases hj
    have := tails_filled _ _ _ hh (htail W hGW hRW)
    rwa [filled_eq hO] at this
end
section
open Go.RowKit Go.Deep Go.WideShapes Go.ChangeShapes Go.ChangeAt
theorem mapM_some' {α β : Type} {f : α → Option β} {g : α → β} : ∀ {l : List α}, (∀ x ∈ l, f x = some (g x)) → l.mapM f = some (l.map g)
  | [], _ => rfl
  | x :: l, h => by
    rw [List.mapM_cons, h x (by simp), mapM_some' (l := l) fun y hy => h y (List.mem_cons_of_mem _ hy)]
    rfl
theorem flat_one {α : Type} (f : Int → α) : ∀ (l : List Int) (n : Nat), l.length = n → ((List.range n).map fun i => [f (iAt l i)]).flatten = l.map f := by
  intro l n h
  have h1 : l.map f = ((List.range n).map (iAt l)).map f := by rw [← h, map_iAt]
  rw [h1]
  generalize List.range n = r
  induction r with
  | nil => rfl
  | cons x r ih => simp [ih]
theorem bits_vi (m : Nat) (x : Int) : Instr.sameBits m (vi x) (vi x) = true := by cases m <;> simp [Instr.sameBits]
theorem bits_all (m : Nat) : ∀ l : List Int, ((l.map vi).zip (l.map vi)).all (fun q => Instr.sameBits m q.1 q.2) = true
  | [] => rfl
  | x :: l => by simp [bits_vi, bits_all m l]
end
end

section
theorem sum_set (l : List Int) (d : Int) : ∀ i, i < l.length → (l.set i (iAt l i + d)).sum = l.sum + d := by
  induction l with
  | nil => intro i hi; simp at hi
  | cons x l ih =>
    intro i hi
    cases i with
    | zero =>
      simp only [List.set_cons_zero, List.sum_cons]
      have : iAt (x :: l) 0 = x := rfl
      omega
    | succ i =>
      simp only [List.set_cons_succ, List.sum_cons]
      have h1 : iAt (x :: l) (i + 1) = iAt l i := rfl
      rw [h1, ih i (by simpa using hi)]
      omega
theorem take_sum_set (l : List Int) (d : Int) (hd : 0 ≤ d) (i k : Nat) : (l.take k).sum ≤ ((l.set i (iAt l i + d)).take k).sum := by
  rcases Nat.lt_or_ge i k with hik | hik
  · rcases Nat.lt_or_ge i l.length with hi | hi
    · rw [List.take_set]
      have e : iAt l i = iAt (l.take k) i := by unfold iAt; rw [List.getElem?_take, if_pos hik]
      rw [e, sum_set _ _ _ (by rw [List.length_take]; omega)]
      omega
    · rw [List.set_eq_of_length_le hi]
      exact Int.le_refl _
  · rw [List.take_set_of_le hik]
    exact Int.le_refl _
theorem sum_set_le (l : List Int) (d : Int) (hd : 0 ≤ d) (i : Nat) : l.sum ≤ (l.set i (iAt l i + d)).sum := by
  have h := take_sum_set l d hd i l.length
  rw [List.take_length] at h
  have e : (l.set i (iAt l i + d)).take l.length = l.set i (iAt l i + d) := by rw [List.take_of_length_le (by simp)]
  rwa [e] at h
end

section
open Go.RowKit
open Go.ChangeMaps (setBlock)
section
theorem cell_of_same {w W : World} {k : Nat} (h : W.heap[k]? = w.heap[k]?) (o : Nat) : W.cell? ⟨k, o, none⟩ = w.cell? ⟨k, o, none⟩ := by simp [World.cell?, h]
/-- One element behind a slice of one's own: in place, or in a block made now. -/
theorem wp_append_one {P : Program} {w : World} {o : Oper} {a : Act} {K : Act → World → Prop} {Q : Exit → Act → World → Prop} (s x : Operand) (t : TypeId)
    (ho : o.op = .call { callee := .builtin .append, args := #[s, x], argTypes := #[t, t] })
    (base : Nat) (e : TypeId) (i : TypeInfo) (z : Value) (bytes : Nat) (ht : P.underlying t = some (.slice e)) (hi : P.info? e = some i) (hz : i.zero = some z) (hsize : i.size = 1) (hby : i.bytes = bytes) (hzs : z.cells.size = 1)
    (A : Option Addr) (n c : Nat) (xs : List Value) (hs : a.eval s = .slice A n c) (hown : w.ownsRow base e 1 (.slice A n c) n xs)
    (ad : Addr) (c2 : Nat) (y : Value) (hx : a.eval x = .slice (some ad) 1 c2) (hy : w.cell? ad = some y) (hy1 : y.oneCell' = true)
    (h63 : n + 1 ≤ maxLen) (hbytes : (n + 1) * bytes ≤ 140737488355328) (hbase : base ≤ w.heap.size)
    (h : ∀ g c' w', w'.ownsRow base e 1 (.slice (some ⟨g, 0, none⟩) (n + 1) c') (n + 1) (xs ++ [y]) → ((A = some ⟨g, 0, none⟩ ∧ c' = c ∧ w.grownBy w' (some g)) ∨ (w.heap.size ≤ g ∧ w.grownBy w' none)) → K (a.put o.dst (.slice (some ⟨g, 0, none⟩) (n + 1) c')) w') : o.wp P a w K Q := by
  have hnews : ∀ j u, [y][j]? = some u → w.cell? (ad.add j) = some u := by
    intro j u hu
    obtain rfl : j = 0 := by
      rcases j with _ | j
      · rfl
      · simp at hu
    simp only [List.getElem?_cons_zero, Option.some.injEq] at hu
    subst hu
    rw [show ad.add 0 = ad by unfold Addr.add; split <;> simp_all]
    exact hy
  have h1 : ∀ u ∈ [y], u.oneCell' = true := fun u hu => by rw [List.mem_singleton.1 hu]; exact hy1
  rcases hown.2 with ⟨h0, hn0⟩ | ⟨g, cap, cur, hv, hb, hg, hnc, hcm, hcs, htk⟩
  · injection h0 with e1 e2 e3
    subst e1 e2 e3
    refine wp_append_lies w s x t ho base e i z 1 bytes ht hi hz hsize hby hzs (by omega) (.slice none 0 0) 0 xs hs hown ad 1 c2 [y] hx rfl hnews h1 (by omega) h63 hbytes hbase w.heap.size rfl ?_
    intro g cap w' hown2 hgrow hat _
    refine h g cap w' hown2 (.inr ⟨?_, hgrow⟩)
    rcases hat with hat | hat
    · simp [Value.ownBlock] at hat
    · omega
  · injection hv with e1 e2 e3
    subst e1 e3
    by_cases hroom : n + 1 ≤ c
    · refine wp_append_own_spare w s x t ho base e i 1 ht hi hsize g n c xs hs hown ad 1 c2 [y] hx rfl hnews h1 hroom ?_
      intro w' hown2 hgrow
      exact h g c w' hown2 (.inl ⟨rfl, rfl, hgrow⟩)
    · have holds : ∀ j u, xs[j]? = some u → w.cell? ((⟨g, 0, none⟩ : Addr).add j) = some u := hown.cells (g := g) rfl
      obtain ⟨v', w', hr, h2, h3⟩ := run_append_arg_grows (P := P) w t o.type e i z 1 bytes ht hi hz hsize hby hzs (by omega) ⟨g, 0, none⟩ n c xs hown.1 holds ad 1 c2 [y] rfl hnews (by omega) h63 hbytes
      obtain ⟨g2, cap, rfl, hg2, _⟩ := h2.form (by omega)
      unfold Oper.wp execOp
      simp only [ho, resolve, invoke, builtin, Sem.run_bind, Sem.run_pure, Result.andThen_ok, List.map_toArray, List.map_cons, List.map_nil, hs, hx, hr]
      exact h g2 cap w' (own_more h2 hbase) (.inr ⟨hg2, h3⟩)
theorem own_prefix {w : World} {base g n c : Nat} {e : TypeId} {xs : List Value} {y : Value} (h : w.ownsRow base e 1 (.slice (some ⟨g, 0, none⟩) (n + 1) c) (n + 1) (xs ++ [y])) : w.ownsRow base e 1 (.slice (some ⟨g, 0, none⟩) n c) n xs := by
  have hl := h.1
  rw [List.length_append, List.length_singleton] at hl
  rcases h.2 with ⟨h0, _⟩ | ⟨g2, cap, cur, hv, hb, hg, hnc, hcm, hcs, htk⟩
  · cases h0
  · refine ⟨by omega, .inr ⟨g2, cap, cur, ?_, hb, hg, by omega, hcm, hcs, ?_⟩⟩
    · injection hv with e1 _ e3
      rw [e1, e3]
    · have e1 : cur.toList.take (n * 1) = (cur.toList.take ((n + 1) * 1)).take (n * 1) := by rw [List.take_take]; congr 1; omega
      rw [e1, htk, List.take_append_of_le_length (by omega), List.take_of_length_le (by omega)]
end
section
theorem atR_shift {K V : Type} [DecidableEq K] (a : K) : ∀ (l : List (K × V)) (i j : Nat), ((atR a l i).map fun p => p.2) = (atR a l j).map fun p => p.2
  | [], _, _ => rfl
  | p :: l, i, j => by
    simp only [atR]
    split
    · rfl
    · exact atR_shift a l (i + 1) (j + 1)
theorem atR_app {K V : Type} [DecidableEq K] (a b : K) (v : V) : ∀ (l : List (K × V)) (i : Nat), ((atR a (l ++ [(b, v)]) i).map fun p => p.2) = ((atR a l i).map fun p => p.2).orElse fun _ => if a = b then some v else none
  | [], i => by
    simp only [List.nil_append, atR]
    split <;> rfl
  | p :: l, i => by
    simp only [List.cons_append, atR]
    split
    · rfl
    · exact atR_app a b v l (i + 1)
/-- How an append has gone on. -/
def Onto1 (A : Option Addr) (c g c' : Nat) (w w' : World) : Prop := (A = some ⟨g, 0, none⟩ ∧ c' = c ∧ w.grownBy w' (some g)) ∨ (w.heap.size ≤ g ∧ w.grownBy w' none)
theorem Onto1.grown {A : Option Addr} {c n g c' : Nat} {w w' : World} (h : Onto1 A c g c' w w') : w.grownBy w' (Value.slice A n c).ownBlock := by
  rcases h with ⟨rfl, _, h⟩ | ⟨_, h⟩
  · exact h
  · exact h.but _
end
end

section
open Go.RowKit Go.Deep
open Go.ChangeMaps (setBlock)
theorem skw {x : Bool} {v : Value} (h : x = true) (W : World) : vIs (bif x then undef else v) undef W := by subst h; rfl
theorem gdT (x : Bool) : if (!x) = true then Value.bool x ≠ .bool true else Value.bool x = .bool true := by cases x <;> simp
theorem gdF (x : Bool) : if x = true then Value.bool x ≠ .bool false else Value.bool x = .bool false := by cases x <;> simp
theorem gdN (x f : Bool) : if (x || !f) = true then (bif x then undef else Value.bool f) ≠ .bool true else (bif x then undef else Value.bool f) = .bool true := by cases x <;> cases f <;> simp [undef]
theorem wp_lookup_r {K V : Type} [DecidableEq K] {P : Program} {w : World} {o : Oper} {a : Act} {Q : Exit → Act → World → Prop} {C : Act → World → Prop} (m x : Operand) (t : TypeId) (c : Bool) (hop : o.op = Op.lookup t m x c)
    {kt vt : TypeId} {ek : K → Value} {ev : V → Value} (E : EqKey P kt ek) (ht : P.underlying t = some (.map kt vt)) {z : Value} (hz : (zeroValue vt).run P w = .ok z w) (b : Nat) (l : List (K × V)) (hm : a.eval m = .map (some b)) (h : RMap ek ev b l w) (k : K) (hx : a.eval x = ek k)
    (hK : C (a.put o.dst (if c then .tuple #[((atR k l 0).map fun p => ev p.2).getD z, .bool (atR k l 0).isSome] else ((atR k l 0).map fun p => ev p.2).getD z)) w) : o.wp P a w C Q := by
  unfold Oper.wp
  simp only [execOp, hop, hm, hx, lookup_run E ht hz h k c, Sem.run_bind, Result.andThen]
  exact hK
/-- A copy of the list, made since. -/
def vClo (base n : Nat) (l : List Int) (H : Nat) (v : Value) (W : World) : Prop := ∃ B c', v = .slice B n c' ∧ W.ownsRow base 3 1 (.slice B n c') n (l.map vi) ∧ (l = [] → B = none) ∧ ∀ k, (Value.slice B n c').ownBlock = some k → H ≤ k
theorem vClo_st {base n : Nat} {l : List Int} {H : Nat} : ∀ v W W', vClo base n l H v W → newer W W' → vClo base n l H v W' := fun _ _ _ ⟨B, c', h1, h2, h3, h4⟩ hb => ⟨B, c', h1, own_below h2 hb, h3, h4⟩
/-- The longer list. -/
def vOn1 (base : Nat) (A : Option Addr) (n c : Nat) (l : List Int) (y : Int) (w : World) (v : Value) (W : World) : Prop := ∃ g c', v = .slice (some ⟨g, 0, none⟩) (n + 1) c' ∧ W.ownsRow base 3 1 (.slice (some ⟨g, 0, none⟩) (n + 1) c') (n + 1) (l.map vi ++ [vi y]) ∧ Onto1 A c g c' w W
theorem Onto1.next {A : Option Addr} {c g c' : Nat} {w W W' : World} (h : Onto1 A c g c' w W) (hb : newer W W') : Onto1 A c g c' w W' := by
  rcases h with ⟨h1, h2, h3⟩ | ⟨h1, h2⟩
  · exact .inl ⟨h1, h2, grown_below h3 hb⟩
  · exact .inr ⟨h1, grown_below h2 hb⟩
theorem Onto1.ahead {A : Option Addr} {c g c' : Nat} {w W W' : World} (hb : newer w W) (h : Onto1 A c g c' W W') : Onto1 A c g c' w W' := by
  rcases h with ⟨h1, h2, h3⟩ | ⟨h1, h2⟩
  · exact .inl ⟨h1, h2, grown_trans' (grown_of_newer hb _) h3⟩
  · exact .inr ⟨Nat.le_trans hb.size h1, grown_trans' (grown_of_newer hb _) h2⟩
theorem vOn1_st {base : Nat} {A : Option Addr} {n c : Nat} {l : List Int} {y : Int} {w : World} : ∀ v W W', vOn1 base A n c l y w v W → newer W W' → vOn1 base A n c l y w v W' := fun _ _ _ ⟨g, c', h1, h2, h3⟩ hb => ⟨g, c', h1, own_below h2 hb, h3.next hb⟩
end

section
open Go.RowKit Go.Deep
/-- Which of the first numbers are so. -/
def numK (f : Nat → Bool) : Nat → List Int
  | 0 => []
  | k + 1 => numK f k ++ (if f k then [(k : Int)] else [])
theorem numK_len (f : Nat → Bool) : ∀ k, (numK f k).length ≤ k
  | 0 => Nat.le_refl _
  | k + 1 => by
    have := numK_len f k
    simp only [numK, List.length_append]
    split <;> simp <;> omega
theorem numK_yes {f : Nat → Bool} {k : Nat} (h : f k = true) : numK f (k + 1) = numK f k ++ [(k : Int)] := by simp only [numK, h, if_true]
theorem numK_no {f : Nat → Bool} {k : Nat} (h : f k = false) : numK f (k + 1) = numK f k := by simp only [numK, h, Bool.false_eq_true, if_false, List.append_nil]
end

section
open Go.RowKit Go.Shelf Go.Deep
theorem mulB {a b A B : Int} (h0 : 0 ≤ a) (h1 : a ≤ A) (h2 : 0 ≤ b) (h3 : b ≤ B) : 0 ≤ a * b ∧ a * b ≤ A * B := ⟨Int.mul_nonneg h0 h2, Int.mul_le_mul h1 h3 h2 (Int.le_trans h0 h1)⟩
theorem iAt_bd {l : List Int} {B : Int} (hB : 0 ≤ B) (h : ∀ s ∈ l, 0 ≤ s ∧ s ≤ B) (k : Nat) : 0 ≤ iAt l k ∧ iAt l k ≤ B := by
  unfold iAt
  cases hk : l[k]? with
  | none => exact ⟨Int.le_refl _, hB⟩
  | some s => exact h s (List.mem_of_getElem? hk)
end

section
open Go.RowKit Go.Shelf Go.Deep
def markD (D : Nat) : Deferred := { target := .collected D, args := #[] }
/-- The marks of ranges over functions that are over. -/
structure MarksOk (Ds : List Nat) (W : World) : Prop where
  nd : Ds.Nodup
  at_ : ∀ D ∈ Ds, W.heap[D]? = some (.deferred (some []))
theorem MarksOk.lt {Ds : List Nat} {W : World} (h : MarksOk Ds W) : ∀ D ∈ Ds, D < W.heap.size := fun D hD => (Array.getElem?_eq_some_iff.1 (h.at_ D hD)).1
theorem MarksOk.next {Ds : List Nat} {W W' : World} (h : MarksOk Ds W) (hb : newer W W') : MarksOk Ds W' := ⟨h.nd, fun D hD => (hb.block D (h.lt D hD)).trans (h.at_ D hD)⟩
theorem MarksOk.grown {Ds : List Nat} {W W' : World} {d : Nat} (h : MarksOk Ds W) (hg : W.grownBy W' (some d)) (hd : d ∉ Ds) : MarksOk Ds W' := ⟨h.nd, fun D hD => (hg.block D (h.lt D hD) (by intro e; injection e with e; rw [e] at hD; exact hd hD)).trans (h.at_ D hD)⟩
theorem MarksOk.far {Ds : List Nat} {W : World} (h : MarksOk Ds W) {k : Nat} {t : TypeId} {cs : Array Value} (hw : Whole W k t cs) : k ∉ Ds := fun hm => by
  have := h.at_ k hm
  unfold Whole at hw
  rw [hw] at this
  cases this
theorem newer_shut {Ds : List Nat} {w W W2 : World} (hn : newer w W) (hge : ∀ D ∈ Ds, w.heap.size ≤ D) (h1 : W2.os = W.os) (h2 : W2.tape = W.tape) (h3 : W2.output = W.output) (h4 : W2.heap.size = W.heap.size) (h5 : ∀ k, k ∉ Ds → W2.heap[k]? = W.heap[k]?) : newer w W2 :=
  ⟨h1.trans hn.os, h2.trans hn.tape, h3.trans hn.output, by rw [h4]; exact hn.size, fun k hk => (h5 k (fun hm => by have := hge k hm; omega)).trans (hn.block k hk)⟩
theorem leaves_marks {F : Fence} {n : Nat} {P : Program} {fn : Func} {tmps : Array Value} {R : Ending → World → Prop} : ∀ (Ds : List Nat) (W : World), MarksOk Ds W →
    (∀ W', W'.os = W.os → W'.tape = W.tape → W'.output = W.output → W'.heap.size = W.heap.size → (∀ k, k ∉ Ds → W'.heap[k]? = W.heap[k]?) → ∃ v, (results fn tmps).run P W' = .ok v W' ∧ R (.returned v) W') → LeavesInM F n P fn tmps R (Ds.map markD) .returning W
  | [], W, _, h => h W rfl rfl rfl rfl fun _ _ => rfl
  | D :: Ds, W, hm, h => by
    have hnd := List.nodup_cons.1 hm.nd
    refine ⟨by simp, .inl ⟨D, _, rfl, run_takeDeferred (hm.at_ D (by simp)), leaves_marks Ds _ ⟨hnd.2, fun E hE => ?_⟩ fun W' h1 h2 h3 h4 h5 => h W' h1 h2 h3 (h4.trans (by simp)) fun k hk => ?_⟩⟩
    · exact (World.putObj_heap_other (fun e => hnd.1 (by rw [← e]; exact hE))).trans (hm.at_ E (List.mem_cons_of_mem _ hE))
    · rw [List.mem_cons, not_or] at hk
      exact (h5 k hk.2).trans (World.putObj_heap_other hk.1)
end

section
open Go.RowKit Go.Deep
/-- append of a list, perhaps empty, onto an empty row without room. -/
theorem wp_append_copy {α : Type} {enc : α → List Value} {size : Nat} {P : Program} {w : World} {o : Oper} {a : Act} {K : Act → World → Prop} {Q : Exit → Act → World → Prop} (s x : Operand) (t e : TypeId) (i0 : TypeInfo) (z : Value) (bytes : Nat)
    (ht : P.underlying t = some (.slice e)) (hi0 : P.info? e = some i0) (hz0 : i0.zero = some z) (hz1 : i0.size = size) (hz2 : i0.bytes = bytes) (hzs : z.cells.size = size) (hs0 : 0 < size) (hby : bytes ≤ 1000) (he : ∀ x, (enc x).length = size)
    (ho : o.op = .call { callee := .builtin .append, args := #[s, x], argTypes := #[t, t] }) (nb : Nat) (hs : a.eval s = .slice (some ⟨nb, 0, none⟩) 0 0)
    (l : List α) (A : Option Addr) (cp : Nat) (hx : a.eval x = .slice A l.length cp) (hl : l.length ≤ 1000) (hr : Row enc size w w.heap.size A l)
    (h : ∀ B c w', Row enc size w' w'.heap.size (some B) l → Below w.heap.size w w' → l.length ≤ c → (B.block = nb ∨ w.heap.size ≤ B.block) → K (a.put o.dst (.slice (some B) l.length c)) w') : Oper.wp P o a w K Q := by
  rcases Nat.eq_zero_or_pos l.length with h0 | hpos
  · obtain rfl : l = [] := List.eq_nil_of_length_eq_zero h0
    have hrun : (Builtin.append_ #[t, t] o.type #[.slice (some ⟨nb, 0, none⟩) 0 0, .slice A 0 cp]).run P w = .ok (.slice (some ⟨nb, 0, none⟩) 0 0) w := by
      have hu := run_underlying (P := P) (w := w) ht
      rcases A with _ | ad <;> simp [Builtin.append_, hu, sizeOf, typeInfo, hi0, Builtin.lenOf, Builtin.firstCells, loadCells, loadCellsFrom, storeCells]
    unfold Oper.wp
    simp [execOp, ho, resolve, invoke, builtin, hs, hx, hrun, Result.andThen]
    exact h _ _ w (Row.nil _) (Below.refl _ _) (Nat.le_refl _) (.inl rfl)
  · obtain ⟨b, off, rfl, hb, hc⟩ := hr (by intro e; rw [e] at hpos; simp at hpos)
    refine wp_append_new s x t ho e i0 z size bytes ht hi0 hz0 hz1 hz2 hzs hs0 ⟨nb, 0, none⟩ hs ⟨b, off, none⟩ l.length cp (l.flatMap enc) hx (by rw [flat_len (enc := enc) (s := size) he]) (row_news (enc := enc) (s := size) hs0 he hr) hpos (by unfold maxLen; omega) (by have := Nat.mul_le_mul hl hby; omega) ?_
    intro gg cap w' hown hbl
    exact h _ _ w' (row_of_own hs0 he hown) hbl (own_room hown).1 (.inr (own_ge_slice hown))
/-- A list copied. -/
def copiedC (w : World) (l : List Int) (e : Ending) (w' : World) : Prop := ∃ A c, e = .returned (.slice A l.length c) ∧ l.length ≤ c ∧ Row intL 1 w' w'.heap.size A l ∧ Below w.heap.size w w' ∧ ∀ a, A = some a → w.heap.size ≤ a.block
end

section
open Go.RowKit Go.Deep
theorem bad1 {a b c d e f : Bool} (h : a = false) : (a && b && c && d && e && f) = false := by subst h; simp
theorem bad2 {a b c d e f : Bool} (h : b = false) : (a && b && c && d && e && f) = false := by subst h; simp
theorem bad3 {a b c d e f : Bool} (h : c = false) : (a && b && c && d && e && f) = false := by subst h; simp
theorem bad4 {a b c d e f : Bool} (h : d = false) : (a && b && c && d && e && f) = false := by subst h; simp
theorem bad5 {a b c d e f : Bool} (h : e = false) : (a && b && c && d && e && f) = false := by subst h; simp
theorem bad6 {a b c d e f : Bool} (h : f = false) : (a && b && c && d && e && f) = false := by subst h; simp
end

section
open Go.RowKit Go.Deep
/-- append of a list, perhaps empty, onto an empty row of one's own. -/
theorem wp_append_owncopy {α : Type} {enc : α → List Value} {size : Nat} {P : Program} {w : World} {o : Oper} {a : Act} {K : Act → World → Prop} {Q : Exit → Act → World → Prop} (base : Nat) (s x : Operand) (t e : TypeId) (i0 : TypeInfo) (z : Value) (bytes : Nat)
    (ht : P.underlying t = some (.slice e)) (hi0 : P.info? e = some i0) (hz0 : i0.zero = some z) (hz1 : i0.size = size) (hz2 : i0.bytes = bytes) (hzs : z.cells.size = size) (hs0 : 0 < size) (hby : bytes ≤ 1000) (he : ∀ x, (enc x).length = size)
    (ho : o.op = .call { callee := .builtin .append, args := #[s, x], argTypes := #[t, t] }) (nb : Nat) (hs : a.eval s = .slice (some ⟨nb, 0, none⟩) 0 0) (hnb : base ≤ nb) (hwn : Whole w nb e #[])
    (l : List α) (A : Option Addr) (cp : Nat) (hx : a.eval x = .slice A l.length cp) (hl : l.length ≤ 1000) (hr : Row enc size w w.heap.size A l) (hbase : base ≤ w.heap.size)
    (h : ∀ B c w', w'.ownsRow base e size (.slice B l.length c) l.length (l.flatMap enc) → Below w.heap.size w w' → l.length ≤ c → K (a.put o.dst (.slice B l.length c)) w') : Oper.wp P o a w K Q := by
  rcases Nat.eq_zero_or_pos l.length with h0 | hpos
  · obtain rfl : l = [] := List.eq_nil_of_length_eq_zero h0
    have hrun : (Builtin.append_ #[t, t] o.type #[.slice (some ⟨nb, 0, none⟩) 0 0, .slice A 0 cp]).run P w = .ok (.slice (some ⟨nb, 0, none⟩) 0 0) w := by
      have hu := run_underlying (P := P) (w := w) ht
      rcases A with _ | ad <;> simp [Builtin.append_, hu, sizeOf, typeInfo, hi0, Builtin.lenOf, Builtin.firstCells, loadCells, loadCellsFrom, storeCells]
    unfold Oper.wp
    simp [execOp, ho, resolve, invoke, builtin, hs, hx, hrun, Result.andThen]
    exact h _ _ w ⟨by simp, .inr ⟨nb, 0, #[], rfl, hnb, hwn, Nat.le_refl _, by unfold maxLen; omega, by simp, by simp⟩⟩ (Below.refl _ _) (Nat.le_refl _)
  · obtain ⟨b, off, rfl, hb, hc⟩ := hr (by intro e; rw [e] at hpos; simp at hpos)
    refine wp_append_new s x t ho e i0 z size bytes ht hi0 hz0 hz1 hz2 hzs hs0 ⟨nb, 0, none⟩ hs ⟨b, off, none⟩ l.length cp (l.flatMap enc) hx (by rw [flat_len (enc := enc) (s := size) he]) (row_news (enc := enc) (s := size) hs0 he hr) hpos (by unfold maxLen; omega) (by have := Nat.mul_le_mul hl hby; omega) ?_
    intro gg cap w' hown hbl
    exact h _ _ w' (own_more hown hbase) hbl (own_room hown).1
def vOwn {α : Type} (B : Nat) (e : TypeId) (size : Nat) (enc : α → List Value) (l : List α) (v : Value) (W : World) : Prop := ∃ A c, v = .slice A l.length c ∧ W.ownsRow B e size (.slice A l.length c) l.length (l.flatMap enc)
theorem vOwn_st {α : Type} {B : Nat} {e : TypeId} {size : Nat} {enc : α → List Value} {l : List α} : ∀ v W W', vOwn B e size enc l v W → newer W W' → vOwn B e size enc l v W' := fun _ _ _ ⟨A, c, h1, h2⟩ hb => ⟨A, c, h1, own_below h2 hb⟩
def vEmpT (B : Nat) (t : TypeId) (v : Value) (W : World) : Prop := ∃ nb, v = .slice (some ⟨nb, 0, none⟩) 0 0 ∧ B ≤ nb ∧ Whole W nb t #[]
theorem vEmpT_st {B : Nat} {t : TypeId} : ∀ v W W', vEmpT B t v W → newer W W' → vEmpT B t v W' := fun _ _ _ ⟨nb, h1, h2, h3⟩ hb => ⟨nb, h1, h2, h3.below hb h3.lt⟩
section
theorem own_apart {w : World} {base base' : Nat} {e e' : TypeId} {size size' n n' : Nat} {v v' : Value} {xs xs' : List Value} (h : w.ownsRow base e size v n xs) (h' : w.ownsRow base' e' size' v' n' xs') (hne : e ≠ e') : v.ownBlock = none ∨ v.ownBlock ≠ v'.ownBlock := by
  rcases Option.eq_none_or_eq_some v.ownBlock with h0 | ⟨q, h0⟩
  · exact .inl h0
  · exact .inr fun h2 => own_own_ne h h' hne q h0 (h2 ▸ h0)
end
theorem own_put6 {W : World} {ob : Nat} {cs : Array Value} {base : Nat} {e : TypeId} {s n : Nat} {v : Value} {xs : List Value} (hw : Whole W ob 35 cs) (ho : W.ownsRow base e s v n xs) (hne : e ≠ 35) (u0 u1 u2 u3 u4 u5 : Value) :
    ((((((W.setCell ⟨ob, 0, none⟩ u0).setCell ⟨ob, 1, none⟩ u1).setCell ⟨ob, 2, none⟩ u2).setCell ⟨ob, 3, none⟩ u3).setCell ⟨ob, 4, none⟩ u4).setCell ⟨ob, 5, none⟩ u5).ownsRow base e s v n xs := by
  have h0 := own_set (i := 0) ho (own_ne ho hw hne) u0
  have w0 := hw.set 0 u0
  have h1 := own_set (i := 1) h0 (own_ne h0 w0 hne) u1
  have w1 := w0.set 1 u1
  have h2 := own_set (i := 2) h1 (own_ne h1 w1 hne) u2
  have w2 := w1.set 2 u2
  have h3 := own_set (i := 3) h2 (own_ne h2 w2 hne) u3
  have w3 := w2.set 3 u3
  have h4 := own_set (i := 4) h3 (own_ne h3 w3 hne) u4
  have w4 := w3.set 4 u4
  exact own_set (i := 5) h4 (own_ne h4 w4 hne) u5
end

section
open Go.RowKit Go.Deep
def vArr (B n : Nat) (cs : Array Value) (v : Value) (W : World) : Prop := ∃ nb, v = .slice (some ⟨nb, 0, none⟩) n n ∧ B ≤ nb ∧ Whole W nb 3 cs
theorem vArr_st {B n : Nat} {cs : Array Value} : ∀ v W W', vArr B n cs v W → newer W W' → vArr B n cs v W' := fun _ _ _ ⟨nb, h1, h2, h3⟩ hb => ⟨nb, h1, h2, h3.below hb h3.lt⟩
end

section
open Go.RowKit Go.Deep
theorem take_sum_bd {l : List Int} {B : Int} (hB : 0 ≤ B) (h : ∀ x ∈ l, 0 ≤ x ∧ x ≤ B) : ∀ k : Nat, 0 ≤ (l.take k).sum ∧ (l.take k).sum ≤ k * B
  | 0 => by simp
  | k + 1 => by
    have ih := take_sum_bd hB h k
    have e : ((k + 1 : Nat) : Int) * B = k * B + B := by rw [Int.natCast_add, Int.add_mul]; simp
    rw [e]
    cases hk : l[k]? with
    | none =>
      have : l.length ≤ k := by simpa using hk
      rw [List.take_of_length_le (by omega)]
      rw [List.take_of_length_le (by omega)] at ih
      omega
    | some x =>
      rw [sum_take hk]
      have := h x (List.mem_of_getElem? hk)
      omega
end

section
theorem zip_snoc {α β : Type} (y : α) : ∀ (l : List α) (ws : List β) (x : β), ws[l.length]? = some x → (l ++ [y]).zip ws = l.zip ws ++ [(y, x)]
  | [], [], x, h => by simp at h
  | [], w :: ws, x, h => by
    simp only [List.length_nil, List.getElem?_cons_zero, Option.some.injEq] at h
    subst h
    simp
  | a :: l, [], x, h => by simp at h
  | a :: l, w :: ws, x, h => by
    simp only [List.length_cons, List.getElem?_cons_succ] at h
    simp only [List.cons_append, List.zip_cons_cons, zip_snoc y l ws x h]
theorem iAt_set {l : List Int} {i j : Nat} {v : Int} (hi : i < l.length) : iAt (l.set i v) j = if i = j then v else iAt l j := by
  unfold iAt
  rw [List.getElem?_set]
  by_cases h : i = j
  · rw [if_pos h, if_pos h, if_pos hi]
    rfl
  · rw [if_neg h, if_neg h]
theorem iAt_zeros (m k : Nat) : iAt (List.replicate m 0) k = 0 := by
  unfold iAt
  rw [List.getElem?_replicate]
  split <;> rfl
end

section
open Go.RowKit Go.Deep
theorem gdM (x f : Bool) : if (x || f) = true then (bif x then undef else Value.bool f) ≠ .bool false else (bif x then undef else Value.bool f) = .bool false := by cases x <;> cases f <;> simp [undef]
theorem flatB_snoc (l : List Int) (y : Int) : (l ++ [y]).flatMap intL = l.flatMap intL ++ [vi y] := by simp [List.flatMap_append, intL]
def vCopyB (H : Nat) (l : List Int) (v : Value) (W : World) : Prop := ∃ B c, v = .slice B l.length c ∧ W.ownsRow H 3 1 (.slice B l.length c) l.length (l.flatMap intL)
def vOneB (H : Nat) (y : Int) (v : Value) (W : World) : Prop := ∃ nb, v = .slice (some ⟨nb, 0, none⟩) 1 1 ∧ H ≤ nb ∧ Whole W nb 3 #[vi y]
theorem vCopyB_st {H : Nat} {l : List Int} : ∀ v W W', vCopyB H l v W → newer W W' → vCopyB H l v W' := fun _ _ _ ⟨B, c, e, h⟩ hb => ⟨B, c, e, own_below h hb⟩
theorem vOneB_st {H : Nat} {y : Int} : ∀ v W W', vOneB H y v W → newer W W' → vOneB H y v W' := fun _ _ _ ⟨nb, e, h1, h2⟩ hb => ⟨nb, e, h1, h2.below hb h2.lt⟩
theorem foldl_take {α β : Type} (f : β → α → β) {l : List α} {j : Nat} {y : α} (b : β) (h : l[j]? = some y) : (l.take (j + 1)).foldl f b = f ((l.take j).foldl f b) y := by
  rw [List.take_add_one, h, List.foldl_append]
  rfl
end

section
open Go.ChangeShapes Go.WideShapes Go.ChangeAt Go.RowKit Go.Deep
theorem map_intL : ∀ l : List Int, l.map vi = l.flatMap intL
  | [] => rfl
  | x :: l => by
    rw [List.map_cons, List.flatMap_cons, ← map_intL l]
    rfl
end

section
open Go.ChangeShapes Go.WideShapes Go.ChangeAt Go.RowKit Go.Deep
/-- A byte; a word of sixteen bits. -/
structure Byt where
  n : Int
  lo : 0 ≤ n
  hi : n ≤ 255
structure Hlf where
  n : Int
  lo : 0 ≤ n
  hi : n ≤ 65535
abbrev byL (x : Byt) : List Value := [.int .u8 x.n]
abbrev hwL (x : Hlf) : List Value := [.int .u16 x.n]
theorem row_byte {w : World} {B : Nat} {A : Option Addr} {l : List Byt} (h : Row byL 1 w B A l) {k : Nat} {c : Byt} (hk : l[k]? = some c) :
    ∃ b off, A = some ⟨b, off, none⟩ ∧ b < B ∧ w.cell? ⟨b, off + k, none⟩ = some (.int .u8 c.n) := by
  obtain ⟨b, off, e, hb, hc⟩ := h (ne_nil_of_get hk)
  exact ⟨b, off, e, hb, by simpa using hc k c hk 0 _ rfl⟩
theorem row_half {w : World} {B : Nat} {A : Option Addr} {l : List Hlf} (h : Row hwL 1 w B A l) {k : Nat} {c : Hlf} (hk : l[k]? = some c) :
    ∃ b off, A = some ⟨b, off, none⟩ ∧ b < B ∧ w.cell? ⟨b, off + k, none⟩ = some (.int .u16 c.n) := by
  obtain ⟨b, off, e, hb, hc⟩ := h (ne_nil_of_get hk)
  exact ⟨b, off, e, hb, by simpa using hc k c hk 0 _ rfl⟩
end

section
theorem mul_mono {n a b : Int} (hn : 0 ≤ n) (h : a ≤ b) : n * a / 1000 ≤ n * b / 1000 := by
  have := Int.mul_le_mul_of_nonneg_left h hn
  omega
theorem modify_at {α : Type} {l : List α} {k : Nat} {x : α} (f : α → α) (h : l[k]? = some x) : (l.modify k f)[k]? = some (f x) := by
  rw [List.getElem?_modify, h]
  simp
theorem modify_mem {α : Type} {l : List α} {k : Nat} {f : α → α} {y : α} (h : y ∈ l.modify k f) : y ∈ l ∨ ∃ x ∈ l, y = f x := by
  obtain ⟨i, hi⟩ := List.getElem?_of_mem h
  rw [List.getElem?_modify] at hi
  cases hl : l[i]? with
  | none => rw [hl] at hi; cases hi
  | some x =>
    rw [hl] at hi
    injection hi with hi
    by_cases hk : k = i
    · simp [hk] at hi
      exact .inr ⟨x, List.mem_of_getElem? hl, hi.symm⟩
    · simp [hk] at hi
      exact .inl (hi ▸ List.mem_of_getElem? hl)
theorem flat_put {α : Type} {enc : α → List Value} {s : Nat} (he : ∀ x, (enc x).length = s) {x' : α} {u : Value} {j : Nat} (hj : j < s) : ∀ (l : List α) (k : Nat) (x : α), l[k]? = some x → enc x' = (enc x).set j u → (l.flatMap enc).set (k * s + j) u = (l.set k x').flatMap enc
  | [], k, x, h, _ => by simp at h
  | z :: l, 0, x, h, hx => by
    obtain rfl : z = x := by simpa using h
    rw [List.set_cons_zero, List.flatMap_cons, List.flatMap_cons, hx, Nat.zero_mul, Nat.zero_add, List.set_append_left _ _ (by rw [he]; exact hj)]
  | z :: l, k + 1, x, h, hx => by
    have h' : l[k]? = some x := by simpa using h
    rw [List.set_cons_succ, List.flatMap_cons, List.flatMap_cons, ← flat_put he hj l k x h' hx, List.set_append_right _ _ (by rw [he, Nat.add_mul]; omega), he, show (k + 1) * s + j - s = k * s + j by rw [Nat.add_mul]; omega]
theorem set_modify {α : Type} {l : List α} {k : Nat} {x : α} {f : α → α} (h : l[k]? = some x) : l.set k (f x) = l.modify k f := by
  apply List.ext_getElem?
  intro i
  rw [List.getElem?_set, List.getElem?_modify]
  by_cases hk : k = i
  · subst hk
    obtain ⟨hl, hx⟩ := List.getElem?_eq_some_iff.1 h
    simp [hl, hx]
  · simp [hk]
theorem map_modify {α β : Type} (f : α → β) (g : α → α) (g' : β → β) (hg : ∀ x, f (g x) = g' (f x)) (l : List α) (k : Nat) : (l.modify k g).map f = (l.map f).modify k g' := by
  apply List.ext_getElem?
  intro i
  rw [List.getElem?_map, List.getElem?_modify, List.getElem?_modify, List.getElem?_map]
  cases l[i]? with
  | none => rfl
  | some x =>
    by_cases hk : k = i
    · simp [hk, hg]
    · simp [hk]
/-- A row of one's own that is not empty begins somewhere. -/
theorem own_some {w : World} {base : Nat} {e : TypeId} {size n cap : Nat} {A : Option Addr} {xs : List Value} (h : w.ownsRow base e size (.slice A n cap) n xs) (hn : 0 < n) : ∃ g, A = some ⟨g, 0, none⟩ ∧ base ≤ g := by
  rcases h.2 with ⟨_, h0⟩ | ⟨g, cap', cur, h', hb, _⟩
  · omega
  · simp only [Value.slice.injEq, true_and] at h'
    exact ⟨g, h'.1, hb⟩
end

section
open Go.ChangeShapes Go.WideShapes Go.ChangeAt Go.RowKit Go.Deep
/-- A remainder of two numbers, as a number. -/
theorem rem_nat {a n : Int} (ha : 0 ≤ a) (hn : 0 < n) : ∃ k : Nat, a.tmod n = k ∧ (k : Int) < n := by
  refine ⟨(a % n).toNat, ?_, ?_⟩
  · rw [Int.tmod_eq_emod_of_nonneg ha, Int.toNat_of_nonneg (Int.emod_nonneg _ (by omega))]
  · rw [Int.toNat_of_nonneg (Int.emod_nonneg _ (by omega))]
    exact Int.emod_lt_of_pos _ hn
end

section
open Go.ChangeShapes Go.WideShapes Go.ChangeAt Go.RowKit Go.Deep
/-- Six cells of one block stored. -/
def put6 (W : World) (ob : Nat) (u0 u1 u2 u3 u4 u5 : Value) : World := (((((W.setCell ⟨ob, 0, none⟩ u0).setCell ⟨ob, 1, none⟩ u1).setCell ⟨ob, 2, none⟩ u2).setCell ⟨ob, 3, none⟩ u3).setCell ⟨ob, 4, none⟩ u4).setCell ⟨ob, 5, none⟩ u5
theorem put6_own {W : World} {ob : Nat} {t : TypeId} {cs : Array Value} {base : Nat} {e : TypeId} {s n : Nat} {v : Value} {xs : List Value} (hw : Whole W ob t cs) (ho : W.ownsRow base e s v n xs) (hne : e ≠ t) (u0 u1 u2 u3 u4 u5 : Value) : (put6 W ob u0 u1 u2 u3 u4 u5).ownsRow base e s v n xs := by
  have h0 := own_set (i := 0) ho (own_ne ho hw hne) u0
  have w0 := hw.set 0 u0
  have h1 := own_set (i := 1) h0 (own_ne h0 w0 hne) u1
  have w1 := w0.set 1 u1
  have h2 := own_set (i := 2) h1 (own_ne h1 w1 hne) u2
  have w2 := w1.set 2 u2
  have h3 := own_set (i := 3) h2 (own_ne h2 w2 hne) u3
  have w3 := w2.set 3 u3
  have h4 := own_set (i := 4) h3 (own_ne h3 w3 hne) u4
  have w4 := w3.set 4 u4
  exact own_set (i := 5) h4 (own_ne h4 w4 hne) u5
theorem put6_whole {W : World} {ob : Nat} {t : TypeId} {a0 a1 a2 a3 a4 a5 : Value} (hw : Whole W ob t #[a0, a1, a2, a3, a4, a5]) (u0 u1 u2 u3 u4 u5 : Value) : Whole (put6 W ob u0 u1 u2 u3 u4 u5) ob t #[u0, u1, u2, u3, u4, u5] := (((((hw.set 0 u0).set 1 u1).set 2 u2).set 3 u3).set 4 u4).set 5 u5
theorem put6_newer {w W : World} {ob : Nat} (hn : newer w W) (hb : w.heap.size ≤ ob) (u0 u1 u2 u3 u4 u5 : Value) : newer w (put6 W ob u0 u1 u2 u3 u4 u5) :=
  (((((hn.setCell (p := ⟨ob, 0, none⟩) hb u0).setCell (p := ⟨ob, 1, none⟩) hb u1).setCell (p := ⟨ob, 2, none⟩) hb u2).setCell (p := ⟨ob, 3, none⟩) hb u3).setCell (p := ⟨ob, 4, none⟩) hb u4).setCell (p := ⟨ob, 5, none⟩) hb u5
end

section
theorem sum_le_map {α : Type} {f g : α → Int} : ∀ (l : List α), (∀ x ∈ l, f x ≤ g x) → (l.map f).sum ≤ (l.map g).sum
  | [], _ => Int.le_refl _
  | x :: l, h => by
    have h1 := h x List.mem_cons_self
    have h2 := sum_le_map l fun y hy => h y (List.mem_cons_of_mem _ hy)
    simp only [List.map_cons, List.sum_cons]
    omega
theorem sum_add_map {α : Type} (f g : α → Int) : ∀ (l : List α), (l.map fun x => f x + g x).sum = (l.map f).sum + (l.map g).sum
  | [] => rfl
  | x :: l => by
    have h2 := sum_add_map f g l
    simp only [List.map_cons, List.sum_cons]
    omega
theorem sum_mul_map {α : Type} (c : Int) (f : α → Int) : ∀ (l : List α), (l.map fun x => c * f x).sum = c * (l.map f).sum
  | [] => by simp
  | x :: l => by
    have h2 := sum_mul_map c f l
    simp only [List.map_cons, List.sum_cons]
    rw [h2, Int.mul_add]
theorem sum_nonneg_map {α : Type} {f : α → Int} : ∀ (l : List α), (∀ x ∈ l, 0 ≤ f x) → 0 ≤ (l.map f).sum
  | [], _ => Int.le_refl _
  | x :: l, h => by
    have h1 := h x List.mem_cons_self
    have h2 := sum_nonneg_map l fun y hy => h y (List.mem_cons_of_mem _ hy)
    simp only [List.map_cons, List.sum_cons]
    omega
theorem sum_min {α : Type} {f : α → Int} {d : Int} (hd : 0 ≤ d) : ∀ (l : List α), (∀ x ∈ l, 0 ≤ f x) → (d ≤ (l.map fun x => mnI d (f x)).sum ∨ (l.map fun x => mnI d (f x)).sum = (l.map f).sum)
  | [], _ => .inr rfl
  | x :: l, h => by
    have h1 := h x List.mem_cons_self
    have hl := fun y hy => h y (List.mem_cons_of_mem _ hy)
    have h0 : 0 ≤ (l.map fun x => mnI d (f x)).sum := sum_nonneg_map (f := fun x => mnI d (f x)) l fun y hy => by have := hl y hy; unfold mnI; split <;> omega
    simp only [List.map_cons, List.sum_cons]
    rcases sum_min hd l hl with h2 | h2
    · left
      unfold mnI at h2 ⊢
      split <;> omega
    · by_cases hx : f x ≤ d
      · right
        rw [h2]
        unfold mnI
        split <;> omega
      · left
        have : mnI d (f x) = d := by unfold mnI; rw [if_neg (by omega)] <;> omega
        omega
end

section
open Go.RowKit Go.Deep
theorem numK_split (f : Nat → Bool) (i : Nat) : ∀ n, i ≤ n → ∃ t, numK f n = numK f i ++ t ∧ ∀ z ∈ t, (i : Int) ≤ z
  | 0, h => ⟨[], by obtain rfl : i = 0 := by omega
                    simp, fun z hz => by simp at hz⟩
  | n + 1, h => by
    by_cases he : i = n + 1
    · subst he
      exact ⟨[], by simp, fun z hz => by simp at hz⟩
    · obtain ⟨t, ht, hz⟩ := numK_split f i n (by omega)
      cases hf : f n with
      | true =>
        rw [numK_yes hf, ht]
        refine ⟨t ++ [(n : Int)], by simp, fun z hz2 => ?_⟩
        rcases List.mem_append.1 hz2 with hz2 | hz2
        · exact hz z hz2
        · rw [List.mem_singleton] at hz2
          omega
      | false =>
        rw [numK_no hf]
        exact ⟨t, ht, hz⟩
theorem numK_here {f : Nat → Bool} {i n : Nat} (hi : i < n) (h : f i = true) : (numK f n)[(numK f i).length]? = some (i : Int) := by
  obtain ⟨t, ht, _⟩ := numK_split f (i + 1) n hi
  rw [ht, numK_yes h, List.append_assoc, List.getElem?_append_right (Nat.le_refl _)]
  simp
theorem numK_not {f : Nat → Bool} {i n : Nat} (hi : i < n) (h : f i = false) {z : Int} (hz : (numK f n)[(numK f i).length]? = some z) : z ≠ (i : Int) := by
  obtain ⟨t, ht, hm⟩ := numK_split f (i + 1) n hi
  rw [ht, numK_no h, List.getElem?_append_right (Nat.le_refl _)] at hz
  have := hm z (List.mem_of_getElem? hz)
  omega
end

section
open Go.RowKit Go.Deep
theorem take_next {l : List Int} {k : Nat} {z : Int} (h : l[k]? = some z) : (l.take (k + 1)).sum = (l.take k).sum + z := by
  rw [List.take_add_one, h, List.sum_append]
  simp
end

section
open Go.ChangeShapes Go.WideShapes Go.ChangeAt Go.RowKit Go.Deep
theorem own_of_whole {w : World} {base g : Nat} {t : TypeId} {cs : Array Value} {n : Nat} (h : Whole w g t cs) (hb : base ≤ g) (hn : cs.size = n) (hm : n ≤ maxLen) : w.ownsRow base t 1 (.slice (some ⟨g, 0, none⟩) n n) n cs.toList :=
  ⟨by simp [hn], .inr ⟨g, n, cs, rfl, hb, h, Nat.le_refl _, hm, by simp [hn], by rw [Nat.mul_one, List.take_of_length_le (by simp [hn])]⟩⟩
def vLst (l : List Int) (v : Value) (W : World) : Prop := ∃ A c, v = .slice A l.length c ∧ Row intL 1 W W.heap.size A l
theorem vLst_st {l : List Int} : ∀ v W W', vLst l v W → newer W W' → vLst l v W' := fun _ _ _ ⟨A, c, h1, h2⟩ hb => ⟨A, c, h1, (h2.below hb).more hb.size⟩
end

section
open Go.ChangeShapes Go.WideShapes Go.ChangeAt Go.RowKit Go.Deep
theorem flat_bool (vs : List Bool) (k : Nat) : (vs.flatMap boL).set k (.bool true) = (vs.set k true).flatMap boL := by
  by_cases h : k < vs.length
  · have := flat_put (enc := boL) (s := 1) (fun _ => rfl) (x := vs[k]) (x' := true) (u := .bool true) (j := 0) (by omega) vs k (List.getElem?_eq_getElem h) rfl
    rw [Nat.mul_one, Nat.add_zero] at this
    exact this
  · rw [List.set_eq_of_length_le (by rw [flat_len (enc := boL) (s := 1) (fun _ => rfl)]; omega), List.set_eq_of_length_le (by omega)]
end

section
open Go.RowKit Go.Deep
theorem numK_mem {f : Nat → Bool} : ∀ {n : Nat} {z : Int}, z ∈ numK f n → ∃ k : Nat, k < n ∧ z = k ∧ f k = true
  | 0, z, h => by simp [numK] at h
  | n + 1, z, h => by
    cases hf : f n with
    | true =>
      rw [numK_yes hf] at h
      rcases List.mem_append.1 h with h | h
      · obtain ⟨k, h1, h2⟩ := numK_mem h
        exact ⟨k, by omega, h2⟩
      · rw [List.mem_singleton] at h
        exact ⟨n, by omega, h, hf⟩
    | false =>
      rw [numK_no hf] at h
      obtain ⟨k, h1, h2⟩ := numK_mem h
      exact ⟨k, by omega, h2⟩
end

section
theorem numK_in {f : Nat → Bool} {n k : Nat} : (k : Int) ∈ (numK f n).map (fun v => ((v.toNat : Nat) : Int)) ↔ k < n ∧ f k = true := by
  rw [List.mem_map]
  constructor
  · rintro ⟨z, hz, he⟩
    obtain ⟨j, h1, h2, h3⟩ := numK_mem hz
    have : j = k := by omega
    subst this
    exact ⟨h1, h3⟩
  · rintro ⟨h1, h2⟩
    refine ⟨(k : Int), ?_, by simp⟩
    have hs := numK_here (n := n) h1 h2
    exact List.mem_of_getElem? hs
theorem numK_rise {f : Nat → Bool} : ∀ (n i : Nat) (a b : Int), (numK f n)[i]? = some a → (numK f n)[i + 1]? = some b → a < b
  | 0, i, a, b, h, _ => by simp [numK] at h
  | n + 1, i, a, b, ha, hb => by
    cases hf : f n with
    | false =>
      rw [numK_no hf] at ha hb
      exact numK_rise n i a b ha hb
    | true =>
      rw [numK_yes hf] at ha hb
      rcases Nat.lt_or_ge (i + 1) (numK f n).length with h | h
      · rw [List.getElem?_append_left (by omega)] at ha
        rw [List.getElem?_append_left h] at hb
        exact numK_rise n i a b ha hb
      · rw [List.getElem?_append_right h] at hb
        have hi : i < (numK f n).length := by
          rcases Nat.lt_or_ge i (numK f n).length with h2 | h2
          · exact h2
          · rw [List.getElem?_eq_none (by simp; omega)] at hb
            cases hb
        rw [List.getElem?_append_left hi] at ha
        obtain ⟨j, hj, rfl, _⟩ := numK_mem (List.mem_of_getElem? ha)
        have hb2 : b = (n : Int) := by
          rw [show i + 1 - (numK f n).length = 0 by omega] at hb
          simpa using hb.symm
        omega
theorem numK_all (n k : Nat) : (k : Int) ∈ (numK (fun _ => true) n).map (fun v => ((v.toNat : Nat) : Int)) ↔ k < n := by
  rw [numK_in]
  simp
end

section
theorem numK_congr {f g : Nat → Bool} : ∀ n, (∀ v, v < n → f v = g v) → numK f n = numK g n
  | 0, _ => rfl
  | n + 1, h => by
    have ih := numK_congr n fun v hv => h v (by omega)
    have hn := h n (by omega)
    cases hf : f n with
    | true => rw [numK_yes hf, numK_yes (hn ▸ hf), ih]
    | false => rw [numK_no hf, numK_no (hn ▸ hf), ih]
end

section
theorem set_sum_le : ∀ (l : List Int) (y : Nat) (a v : Int), l[y]? = some a → a ≤ v → ∀ k, (l.take k).sum ≤ ((l.set y v).take k).sum
  | [], _, _, _, h, _, _ => by simp at h
  | b :: l, 0, a, v, h, hv, 0 => by simp
  | b :: l, 0, a, v, h, hv, k + 1 => by
    have e : b = a := by simpa using h
    subst e
    simpa using hv
  | b :: l, y + 1, a, v, h, hv, 0 => by simp
  | b :: l, y + 1, a, v, h, hv, k + 1 => by
    have ih := set_sum_le l y a v (by simpa using h) hv k
    simpa using ih
end

section
open Go.RowKit Go.Deep
section
variable {v1 d1 l0 h0 : Int} {B bw n0 v0 p0 b0 b1 b2 b3 : Nat} {W W' : World}
theorem whole_ne {b b' : Nat} {t t' : TypeId} {cs cs' : Array Value} (h : Whole W b t cs) (h' : Whole W b' t' cs') (ht : t ≠ t') : b ≠ b' := by
  intro e
  unfold Whole at h h'
  rw [e, h'] at h
  injection h with h
  injection h with _ h
  exact ht h.symm
end
end

end Go.Proofs.Ytkenokpobbichaa
