/- What the last text of this chain needs: GA, P, A, B, C. -/
import Derived.Test.YtkenokpobbichaaZL01
namespace Go.Proofs.Ytkenokpobbichaa
section
section
open Go.RowKit
end
section
open Go.RowKit
theorem hrow_ok {α : Type} {enc : α → List Value} {s : Nat} {w : World} {A : Option Addr} {l : List α} (h : Row enc s w w.heap.size A l) (o : Obj) : Row enc s (w.alloc o) (w.alloc o).heap.size A l := row_alloc h o
end
section
open Go.RowKit
theorem all_map {α β : Type} (f : α → β) (p : β → Bool) (l : List α) : (l.map f).all p = l.all fun x => p (f x) := by rw [List.all_map]; rfl
end
section
open Go.RowKit
theorem mul_bd {a d A D : Int} (h0 : 0 ≤ a) (h1 : a ≤ A) (h2 : 0 ≤ d) (h3 : d ≤ D) : 0 ≤ a * d ∧ a * d ≤ A * D :=
  ⟨Int.mul_nonneg h0 h2, Int.le_trans (Int.mul_le_mul_of_nonneg_right h1 h2) (Int.mul_le_mul_of_nonneg_left h3 (by omega))⟩
end
section
open Go.RowKit
end
section
open Go.RowKit
theorem Row.take {α : Type} {enc : α → List Value} {s B : Nat} {w : World} {A : Option Addr} {l : List α} (h : Row enc s w B A l) (k : Nat) : Row enc s w B A (l.take k) := by
  intro hne
  obtain ⟨b, off, e, hb, hc⟩ := h (by rintro rfl; simp at hne)
  refine ⟨b, off, e, hb, fun j x hx => hc j x ?_⟩
  rw [List.getElem?_take] at hx
  split at hx
  · exact hx
  · cases hx
end
section
open Go.RowKit Go.Deep
end
section
section
open Go.RowKit
variable {P : Program}
theorem yielded_ne {l : List Oper} {tmps : Array Value} {j : Nat} {dj : Tmp} {oj : Oper} {b : Bool} {v : Value} (hoj : l[j]? = some oj) (hd : oj.dst = some dj) (ht : tmps[dj]? = some v) (hv : v ≠ .bool b) : yielded l.toArray tmps j ≠ some b := by
  have e : (((l.toArray)[j]?).bind (·.dst)).bind (tmps[·]?) = some v := by
    simp only [List.getElem?_toArray, hoj, Option.bind_some, hd, ht]
  unfold yielded
  rw [e]
  intro h
  cases v with
  | bool b' => cases h; exact hv rfl
  | _ => cases h
theorem region_rel_u {l : List Oper} {n : Nat} {Q : Exit → Act → World → Prop} {a₀ : Act} {w : World} (hB : relG l n = true)
    (sk : Nat → Bool) (G : World → Prop) (Rl : Nat → World → World → Prop) (D : Nat → Value → World → Prop)
    (hgd : ∀ (i : Nat) (o : Oper) (j : Nat) (b : Bool), i < n → l[i]? = some o → o.guard = some (j, b) → ∀ v W, D j v W → if sk i then v ≠ .bool b else v = .bool b)
    (hsk : ∀ (i : Nat) (o : Oper), i < n → l[i]? = some o → sk i = true → o.guard ≠ none) (hDsk : ∀ i W, sk i = true → D i undef W)
    (hDs : ∀ i j v W W', i < n → j ≠ i → D j v W → Rl i W W' → D j v W')
    (hsz : ∀ i o d, i < n → l[i]? = some o → o.dst = some d → d < a₀.tmps.size)
    (hG : G w)
    (hstep : ∀ i o, i < n → l[i]? = some o → sk i = false → ∀ (listed : Array Bool) a W, listed.size = l.length → listed.getD i true = false → G W → Outer l n a₀ a →
      (∀ j oj d, j < n → l[j]? = some oj → oj.dst = some d → (∃ e ∈ o.after, Region.binds .any e = true ∧ e.on = j) → D j (slotOf a d) W) →
      o.wp P a W (fun a' W' => ∃ v, a' = a.put o.dst v ∧ D i v W' ∧ Rl i W W' ∧ G W') Q)
    (htail : ∀ (_ : Array Bool) a W, G W → Outer l n a₀ a → (∀ j oj d, j < n → l[j]? = some oj → oj.dst = some d → D j (slotOf a d) W) → wpList P l.toArray Q (l.drop n) a W) :
    wpAny P .any l.toArray Q l.toArray.size (Array.replicate l.toArray.size false) a₀ w := by
  simp only [relG, Bool.and_eq_true, decide_eq_true_eq] at hB
  obtain ⟨⟨⟨⟨⟨hn, hs⟩, hc⟩, hback⟩, hdst⟩, hseq⟩ := hB
  have hback' : ∀ (i : Nat) (o : Oper), l[i]? = some o → (∀ e ∈ o.after, Region.binds .any e = true → e.on < i) ∧ (∀ j b, o.guard = some (j, b) → j < i ∧ (∃ e ∈ o.after, Region.binds .any e = true ∧ e.on = j) ∧ ∃ oj dj, l[j]? = some oj ∧ oj.dst = some dj) := by
    intro i o ho
    have := List.all_eq_true.1 hback i (List.mem_range.2 (List.getElem?_eq_some_iff.1 ho).1)
    simp only [ho, Bool.and_eq_true, Array.all_eq_true_iff_forall_mem] at this
    refine ⟨fun e he hb => by simpa [hb] using this.1 e he, fun j b hg => ?_⟩
    have h2 := this.2
    rw [hg] at h2
    simp only [Bool.and_eq_true, decide_eq_true_eq, List.any_eq_true, beq_iff_eq] at h2
    obtain ⟨⟨h3, e, he, hb, hon⟩, h4⟩ := h2
    refine ⟨h3, ⟨e, Array.mem_toList_iff.1 he, hb, hon⟩, ?_⟩
    cases hj : l[j]? with
    | none => rw [hj] at h4; cases h4
    | some oj =>
      rw [hj] at h4
      obtain ⟨dj, hdj⟩ := Option.isSome_iff_exists.1 h4
      exact ⟨oj, dj, rfl, hdj⟩
  have hdst' : ∀ (i j : Nat) (o o' : Oper) (d : Tmp), i < n → j < n → i ≠ j → l[i]? = some o → l[j]? = some o' → o.dst = some d → o'.dst ≠ some d := by
    intro i j o o' d hi hj hij ho ho' hd hd'
    have := List.all_eq_true.1 (List.all_eq_true.1 hdst i (List.mem_range.2 hi)) j (List.mem_range.2 hj)
    simp [hij, ho, ho', hd, hd'] at this
  have key : ∀ (f : Nat) (listed : Array Bool) (a : Act) (W : World), HeadInv .any l.toArray n listed → ((List.range n).filter fun i => !listed.getD i false).length = f →
      G W → Outer l n a₀ a → (∀ (j : Nat) (oj : Oper) (d : Tmp), j < n → l[j]? = some oj → listed.getD j false = true → oj.dst = some d → D j (slotOf a d) W) →
      wpAny P .any l.toArray Q (f + (l.length - n)) listed a W := by
    intro f
    induction f with
    | zero =>
      intro listed a W inv hcnt hGW hO hD
      have hall : ∀ i, i < n → listed.getD i false = true := by
        intro i hi
        have := List.eq_nil_of_length_eq_zero hcnt
        have h2 := List.filter_eq_nil_iff.1 this i (List.mem_range.2 hi)
        simpa using h2
      have hcanon : listed = headDone n l.length := by
        apply Array.ext
        · rw [inv.size]; simp [headDone]
        · intro i h1 h2
          have hi : i < l.length := by simpa [headDone] using h2
          simp only [headDone, Array.getElem_ofFn]
          by_cases hin : i < n
          · have := hall i hin
            simp [h1] at this
            simp [this, hin]
          · have := inv.tail i (by omega) (by simpa using hi)
            simp [h1] at this
            simp [this, hin]
      rw [Nat.zero_add]
      have := wpAny_of_seq (md := .any) (Q' := Q) (P := P) (ops := l.toArray) (l.drop n) n listed a W (fun j => by simp [List.getElem?_drop]) (by rw [List.length_drop, hcanon]; exact hseq) (htail listed a W hGW hO (fun j oj d hj ho hd => hD j oj d hj ho (hall j hj) hd))
      rwa [List.length_drop] at this
    | succ f ih =>
      intro listed a W inv hcnt hGW hO hD
      -- some operation of the head has not come up
      have hex : ∃ i, i < n ∧ listed.getD i false = false ∧ ∀ j, j < i → listed.getD j false = true := by
        have hne : ((List.range n).filter fun i => !listed.getD i false) ≠ [] := by intro h; rw [h] at hcnt; cases hcnt
        have : ∃ i, i < n ∧ listed.getD i false = false := by
          obtain ⟨x, hx⟩ := List.exists_mem_of_ne_nil _ hne
          have hx' := List.mem_filter.1 hx
          exact ⟨x, List.mem_range.1 hx'.1, by simpa using hx'.2⟩
        obtain ⟨i, hi, hl⟩ := this
        have : ∀ k i, i ≤ k → i < n → listed.getD i false = false → ∃ i, i < n ∧ listed.getD i false = false ∧ ∀ j, j < i → listed.getD j false = true := by
          intro k
          induction k with
          | zero => intro i hik hi hl; exact ⟨i, hi, hl, fun j hj => by omega⟩
          | succ k ihk =>
            intro i hik hi hl
            by_cases h : ∃ j, j < i ∧ listed.getD j false = false
            · obtain ⟨j, hj, hjl⟩ := h
              exact ihk j (by omega) (by omega) hjl
            · refine ⟨i, hi, hl, fun j hj => ?_⟩
              cases hh : listed.getD j false with
              | true => rfl
              | false => exact absurd ⟨j, hj, hh⟩ h
        exact this i i (Nat.le_refl _) hi hl
      obtain ⟨i₀, hi₀, hun₀, hbelow⟩ := hex
      have hi₀s : i₀ < listed.size := by rw [inv.size]; simp; omega
      have hl₀ : listed.getD i₀ true = false := getD_in hi₀s hun₀
      have hready₀ : i₀ ∈ Region.ready .any l.toArray listed := by
        have ho : l[i₀]? = some l[i₀] := List.getElem?_eq_getElem (by omega)
        refine mem_ready.2 ⟨hl₀, l[i₀], by simp, fun e he hb => hbelow _ ((hback' i₀ _ ho).1 e he hb)⟩
      rw [show f + 1 + (l.length - n) = f + (l.length - n) + 1 by omega]
      refine ⟨fun h => (by rw [h] at hready₀; cases hready₀), fun i hi => ?_⟩
      have hin : i < n := by
        rcases Nat.lt_or_ge i n with h | h
        · exact h
        · exact absurd hi (tail_waits hs hc (by simpa using hn) inv _ i₀ rfl hi₀ hl₀ i h)
      obtain ⟨hiun, o, ho, hall⟩ := mem_ready.1 hi
      have ho' : l[i]? = some o := by simpa using ho
      unfold wpOp
      simp only [ho]
      have hgv : ∀ j b, o.guard = some (j, b) → if sk i then yielded l.toArray a.tmps j ≠ some b else yielded l.toArray a.tmps j = some b := by
        intro j b hg
        obtain ⟨hji, ⟨e, he, hb, hon⟩, oj, dj, hoj, hdj⟩ := (hback' i o ho').2 j b hg
        have hl := hall e he hb
        rw [hon] at hl
        have hv := hgd i o j b hin ho' hg _ _ (hD j oj dj (by omega) hoj hl hdj)
        have hsz' : dj < a.tmps.size := by rw [hO.size]; exact hsz j oj dj (by omega) hoj hdj
        have this : a.tmps[dj]? = some (slotOf a dj) := by
          unfold slotOf
          rw [Array.getElem?_eq_getElem hsz']
          rfl
        generalize slotOf a dj = v at hv this
        cases hsk' : sk i with
        | true =>
          rw [hsk'] at hv
          simp only [if_true] at hv ⊢
          exact yielded_ne hoj hdj this hv
        | false =>
          rw [hsk'] at hv
          simp only [Bool.false_eq_true, if_false] at hv ⊢
          subst hv
          simp [yielded, hoj, hdj, this]
      have hcount : ((List.range n).filter fun i_1 => !(listed.setIfInBounds i true).getD i_1 false).length = f := by
        have hiun' : listed.getD i false = false := getD_both hiun
        have his : i < listed.size := by rw [inv.size]; simp; omega
        have e1 : ((List.range n).filter fun j => !(listed.setIfInBounds i true).getD j false) = ((List.range n).filter fun j => !listed.getD j false).filter (fun j => decide (j ≠ i)) := by
          rw [List.filter_filter]
          apply List.filter_congr
          intro j _
          by_cases hji : j = i
          · subst hji; simp [his]
          · rw [getD_set_ne false (Ne.symm hji)]; simp [hji]
        rw [e1]
        have hnd : ((List.range n).filter fun j => !listed.getD j false).Nodup := List.nodup_range.filter _
        have hmem : i ∈ ((List.range n).filter fun j => !listed.getD j false) := List.mem_filter.2 ⟨List.mem_range.2 hin, by simp [hiun']⟩
        have := filter_ne_length i _ hnd hmem
        omega
      cases hski : sk i with
      | true =>
        have hw : ¬ Region.wanted o (yielded l.toArray a.tmps) = true := by
          unfold Region.wanted
          cases hg : o.guard with
          | none => exact absurd hg (hsk i o hin ho' hski)
          | some jb =>
            obtain ⟨j, b⟩ := jb
            have := hgv j b hg
            simp only [hski, if_true] at this
            simpa using this
        rw [if_neg hw]
        have hOut : Outer l n a₀ (a.put o.dst undef) := by
          refine ⟨?_, ?_, fun t ht => ?_⟩
          · cases hd : o.dst <;> simp [Act.put, hO.defers]
          · cases hd : o.dst <;> simp [Act.put, hO.size]
          · cases hd : o.dst with
            | none => simpa [Act.put] using hO.same t ht
            | some d =>
              have hne : d ≠ t := fun h => ht i o hin ho' (by rw [hd, h])
              simp only [Act.put]
              rw [Array.getElem?_setIfInBounds_ne hne]
              exact hO.same t ht
        refine ih _ _ _ (inv.set hi hin) hcount hGW hOut ?_
        intro j oj d hj hoj hlj hd
        by_cases hji : j = i
        · subst hji
          cases hd2 : o.dst with
          | none => have e9 : oj = o := Option.some.inj (hoj.symm.trans ho'); rw [e9, hd2] at hd; cases hd
          | some d9 =>
            have e9 : oj = o := Option.some.inj (hoj.symm.trans ho')
            rw [e9, hd2] at hd
            cases hd
            have hds : d < a.tmps.size := by rw [hO.size]; exact hsz j o d hj (e9 ▸ hoj) hd2
            rw [slot_put_same hds]
            exact hDsk _ _ hski
        · rw [getD_set_ne false (Ne.symm hji)] at hlj
          have hold := hD j oj d hj hoj hlj hd
          cases hdo : o.dst with
          | none => simpa [Act.put] using hold
          | some d' =>
            have hne : d ≠ d' := fun h => hdst' j i oj o d hj hin hji hoj ho' hd (by rw [hdo, h])
            rw [slot_put_other hne]
            exact hold
      | false =>
        have hst := hstep i o hin ho' hski listed a W (by rw [inv.size]; simp) hiun hGW hO (fun j oj d hj hoj hd ⟨e, he, hb, hon⟩ => hD j oj d hj hoj (by rw [← hon]; exact hall e he hb) hd)
        have hw : Region.wanted o (yielded l.toArray a.tmps) = true := by
          unfold Region.wanted
          cases hg : o.guard with
          | none => rfl
          | some jb =>
            obtain ⟨j, b⟩ := jb
            have := hgv j b hg
            simp only [hski, Bool.false_eq_true, if_false] at this
            simpa using this
        rw [if_pos hw]
        refine .inl (Oper.wp_mono ?_ hst)
        rintro a' W' ⟨v, rfl, hDv, hRv, hGv⟩
        have hOut : Outer l n a₀ (a.put o.dst v) := by
          refine ⟨?_, ?_, fun t ht => ?_⟩
          · cases hd : o.dst <;> simp [Act.put, hO.defers]
          · cases hd : o.dst <;> simp [Act.put, hO.size]
          · cases hd : o.dst with
            | none => simpa [Act.put] using hO.same t ht
            | some d =>
              have hne : d ≠ t := fun h => ht i o hin ho' (by rw [hd, h])
              simp only [Act.put]
              rw [Array.getElem?_setIfInBounds_ne hne]
              exact hO.same t ht
        refine ih _ _ _ (inv.set hi hin) hcount hGv hOut ?_
        intro j oj d hj hoj hlj hd
        by_cases hji : j = i
        · subst hji
          have : oj = o := Option.some.inj (hoj.symm.trans ho')
          subst this
          have hds : d < a.tmps.size := by rw [hO.size]; exact hsz j oj d hj hoj hd
          rw [hd, slot_put_same hds]
          exact hDv
        · rw [getD_set_ne false (Ne.symm hji)] at hlj
          have hold := hDs i j _ W W' hin hji (hD j oj d hj hoj hlj hd) hRv
          cases hdo : o.dst with
          | none => simpa [Act.put] using hold
          | some d' =>
            have hne : d ≠ d' := fun h => hdst' j i oj o d hj hin hji hoj ho' hd (by rw [hdo, h])
            rw [slot_put_other hne]
            exact hold
  have inv0 : HeadInv .any l.toArray n (Array.replicate l.toArray.size false) :=
    ⟨by simp, fun j oj _ hl => (by rw [getD_replicate_false] at hl; cases hl), fun t _ ht => getD_in (by simpa using ht) (getD_replicate_false _ _)⟩
  have := key n _ a₀ w inv0 (by
    have : ((List.range n).filter fun i => !(Array.replicate l.toArray.size false).getD i false) = List.range n := List.filter_eq_self.2 (fun i _ => by rw [getD_replicate_false]; rfl)
    rw [this, List.length_range]) hG ⟨rfl, rfl, fun _ _ => rfl⟩ (fun j oj d _ _ hl => by rw [getD_replicate_false] at hl; cases hl)
  rw [show n + (l.length - n) = l.toArray.size by simp; omega] at this
  exact this
/-- The words say of each guard whether it lets its operation come. -/
def guardsU (D : Nat → Value → World → Prop) : List Bool → List Oper → Prop
  | _, [] => True
  | sks, o :: os => (match o.guard with
      | none => sks.headD false = false
      | some (j, b) => ∀ v W, D j v W → if sks.headD false then v ≠ .bool b else v = .bool b) ∧ guardsU D sks.tail os
theorem guardsU_get {D : Nat → Value → World → Prop} : ∀ (os : List Oper) (sks : List Bool), guardsU D sks os → ∀ (i : Nat) (o : Oper), os[i]? = some o → (skAt sks i = true → o.guard ≠ none) ∧ ∀ j b, o.guard = some (j, b) → ∀ v W, D j v W → if skAt sks i then v ≠ .bool b else v = .bool b
  | [], _, _, i, o, h => by simp at h
  | x :: os, sks, hs, 0, o, h => by
    simp at h; subst h
    have := hs.1
    rw [skAt_zero]
    cases hg : x.guard with
    | none =>
      rw [hg] at this
      exact ⟨fun e => (by rw [this] at e; cases e), fun j b e => (by cases e)⟩
    | some jb =>
      rw [hg] at this
      exact ⟨fun _ e => (by cases e), fun j b e => (by cases e; exact this)⟩
  | x :: os, sks, hs, i + 1, o, h => by
    rw [skAt_succ]
    exact guardsU_get os sks.tail hs.2 i o (by simpa using h)
/-- Words of operations that do not come say nothing. -/
def skWordsU : List Bool → List (Value → World → Prop) → Prop
  | _, [] => True
  | sks, p :: ps => (sks.headD false = true → ∀ W, p undef W) ∧ skWordsU sks.tail ps
theorem skWordsU_get : ∀ (ps : List (Value → World → Prop)) (sks : List Bool), skWordsU sks ps → ∀ i W, skAt sks i = true → pickD ps i undef W
  | [], _, _, _, _, _ => trivial
  | p :: ps, sks, hs, 0, W, h => hs.1 (by rw [← skAt_zero]; exact h) W
  | p :: ps, sks, hs, i + 1, W, h => skWordsU_get ps sks.tail hs.2 i W (by rw [← skAt_succ]; exact h)
/-- A region that draws its order, by a word for each operation of its head; some do not come. -/
theorem region_told_u {l : List Oper} (n : Nat) {Q : Exit → Act → World → Prop} {a₀ : Act} {w : World} (hB : relG l n = true) (hz : szOk a₀.tmps.size (l.take n) = true) (sks : List Bool)
    (G : World → Prop) (Rl : World → World → Prop) (ps : List (Value → World → Prop)) (hgd : guardsU (pickD ps) sks (l.take n)) (hws : skWordsU sks ps)
    (hRt : ∀ {A B C : World}, Rl A B → Rl B C → Rl A C) (hDs : ∀ i v W W', pickD ps i v W → Rl W W' → pickD ps i v W')
    (hG : G w) (hR0 : Rl w w) (hstep : stepsOkS P l n Q a₀ w G Rl (pickD ps) sks 0 (l.take n))
    (htail : ∀ W, G W → Rl w W → tailsOk (pickD ps) W (fun a => wpList P l.toArray Q (l.drop n) a W) 0 (l.take n) a₀) :
    wpAny P .any l.toArray Q l.toArray.size (Array.replicate l.toArray.size false) a₀ w := by
  have htake : ∀ (i : Nat) (o : Oper), i < n → l[i]? = some o → (l.take n)[i]? = some o := fun i o hi ho => by rw [List.getElem?_take, if_pos hi]; exact ho
  have hback : ∀ (i : Nat) (o : Oper), i < n → l[i]? = some o → ∀ e ∈ o.after, Region.binds .any e = true → e.on < n := by
    have hB' := hB
    simp only [relG, Bool.and_eq_true, decide_eq_true_eq] at hB'
    obtain ⟨⟨⟨⟨⟨_, _⟩, _⟩, hback⟩, _⟩, _⟩ := hB'
    intro i o hi ho e he hbd
    have := List.all_eq_true.1 hback i (List.mem_range.2 (List.getElem?_eq_some_iff.1 ho).1)
    simp only [ho, Bool.and_eq_true, Array.all_eq_true_iff_forall_mem] at this
    have h2 : e.on < i := by simpa [hbd] using this.1 e he
    omega
  refine region_rel_u hB (skAt sks) (fun W => G W ∧ Rl w W) (fun _ => Rl) (pickD ps) (fun i o j b hi ho hg => (guardsU_get _ _ hgd i o (htake i o hi ho)).2 j b hg) (fun i o hi ho hs => (guardsU_get _ _ hgd i o (htake i o hi ho)).1 hs) (fun i W hs => skWordsU_get ps sks hws i W hs) (fun _ j v W W' _ _ => hDs j v W W') (fun i o d hi ho hd => sz_of _ hz i o d (htake i o hi ho) hd) ⟨hG, hR0⟩ ?_ ?_
  · rintro i o hi ho hski _ a W _ _ ⟨hGW, hRW⟩ hO hp
    have := stepsS_get _ _ _ hstep i o (htake i o hi ho)
    rw [Nat.zero_add] at this
    rcases this with h | this
    · rw [h] at hski; cases hski
    refine Oper.wp_mono ?_ (this a W hGW hRW hO (preds_of o (hback i o hi ho) hp))
    rintro a' W' ⟨v, h1, h2, h3, h4⟩
    exact ⟨v, h1, h2, h3, h4, hRt hRW h3⟩
  · rintro _ a W ⟨hGW, hRW⟩ hO hd
    have hh := heads_of (D := pickD ps) (a := a) (W := W) (l.take n) 0 fun j oj d hj hdd => by
      rw [List.getElem?_take] at hj
      split at hj
      · rename_i hjn
        rw [Nat.zero_add]
        exact hd j oj d hjn hj hdd
      · cases hj
    have := tails_filled _ _ _ hh (htail W hGW hRW)
    rwa [filled_eq hO] at this
end
section
open Go.RowKit Go.Deep Go.WideShapes Go.ChangeShapes Go.ChangeAt
end
end

section
open Go.RowKit
open Go.ChangeMaps (setBlock)
section
theorem cell_of_same {w W : World} {k : Nat} (h : W.heap[k]? = w.heap[k]?) (o : Nat) : W.cell? ⟨k, o, none⟩ = w.cell? ⟨k, o, none⟩ := by simp [World.cell?, h]
/-- One element behind a slice of one's own: in place, or in a block made now. -/
theorem wp_append_one {P : Program} {w : World} {o : Oper} {a : Act} {K : Act → World → Prop} {Q : Exit → Act → World → Prop} (s x : Operand) (t : TypeId)
    (ho : o.op = .call { callee := .builtin .append, args := #[s, x], argTypes := #[t, t] })
    (base : Nat) (e : TypeId) (i : TypeInfo) (z : Value) (bytes : Nat) (ht : P.underlying t = some (.slice e)) (hi : P.info? e = some i) (hz : i.zero = some z) (hsize : i.size = 1) (hby : i.bytes = bytes) (hzs : z.cells.size = 1)
    (A : Option Addr) (n c : Nat) (xs : List Value) (hs : a.eval s = .slice A n c) (hown : w.ownsRow base e 1 (.slice A n c) n xs)
    (ad : Addr) (c2 : Nat) (y : Value) (hx : a.eval x = .slice (some ad) 1 c2) (hy : w.cell? ad = some y) (hy1 : y.oneCell' = true)
    (h63 : n + 1 ≤ maxLen) (hbytes : (n + 1) * bytes ≤ 140737488355328) (hbase : base ≤ w.heap.size)
    (h : ∀ g c' w', w'.ownsRow base e 1 (.slice (some ⟨g, 0, none⟩) (n + 1) c') (n + 1) (xs ++ [y]) → ((A = some ⟨g, 0, none⟩ ∧ c' = c ∧ w.grownBy w' (some g)) ∨ (w.heap.size ≤ g ∧ w.grownBy w' none)) → K (a.put o.dst (.slice (some ⟨g, 0, none⟩) (n + 1) c')) w') : o.wp P a w K Q := by
  have hnews : ∀ j u, [y][j]? = some u → w.cell? (ad.add j) = some u := by
    intro j u hu
    obtain rfl : j = 0 := by
      rcases j with _ | j
      · rfl
      · simp at hu
    simp only [List.getElem?_cons_zero, Option.some.injEq] at hu
    subst hu
    rw [show ad.add 0 = ad by unfold Addr.add; split <;> simp_all]
    exact hy
  have h1 : ∀ u ∈ [y], u.oneCell' = true := fun u hu => by rw [List.mem_singleton.1 hu]; exact hy1
  rcases hown.2 with ⟨h0, hn0⟩ | ⟨g, cap, cur, hv, hb, hg, hnc, hcm, hcs, htk⟩
  · injection h0 with e1 e2 e3
    subst e1 e2 e3
    refine wp_append_lies w s x t ho base e i z 1 bytes ht hi hz hsize hby hzs (by omega) (.slice none 0 0) 0 xs hs hown ad 1 c2 [y] hx rfl hnews h1 (by omega) h63 hbytes hbase w.heap.size rfl ?_
    intro g cap w' hown2 hgrow hat _
    refine h g cap w' hown2 (.inr ⟨?_, hgrow⟩)
    rcases hat with hat | hat
    · simp [Value.ownBlock] at hat
    · omega
  · injection hv with e1 e2 e3
    subst e1 e3
    by_cases hroom : n + 1 ≤ c
    · refine wp_append_own_spare w s x t ho base e i 1 ht hi hsize g n c xs hs hown ad 1 c2 [y] hx rfl hnews h1 hroom ?_
      intro w' hown2 hgrow
      exact h g c w' hown2 (.inl ⟨rfl, rfl, hgrow⟩)
    · have holds : ∀ j u, xs[j]? = some u → w.cell? ((⟨g, 0, none⟩ : Addr).add j) = some u := hown.cells (g := g) rfl
      obtain ⟨v', w', hr, h2, h3⟩ := run_append_arg_grows (P := P) w t o.type e i z 1 bytes ht hi hz hsize hby hzs (by omega) ⟨g, 0, none⟩ n c xs hown.1 holds ad 1 c2 [y] rfl hnews (by omega) h63 hbytes
      obtain ⟨g2, cap, rfl, hg2, _⟩ := h2.form (by omega)
      unfold Oper.wp execOp
      simp only [ho, resolve, invoke, builtin, Sem.run_bind, Sem.run_pure, Result.andThen_ok, List.map_toArray, List.map_cons, List.map_nil, hs, hx, hr]
      exact h g2 cap w' (own_more h2 hbase) (.inr ⟨hg2, h3⟩)
end
section
/-- How an append has gone on. -/
def Onto1 (A : Option Addr) (c g c' : Nat) (w w' : World) : Prop := (A = some ⟨g, 0, none⟩ ∧ c' = c ∧ w.grownBy w' (some g)) ∨ (w.heap.size ≤ g ∧ w.grownBy w' none)
theorem Onto1.grown {A : Option Addr} {c n g c' : Nat} {w w' : World} (h : Onto1 A c g c' w w') : w.grownBy w' (Value.slice A n c).ownBlock := by
  rcases h with ⟨rfl, _, h⟩ | ⟨_, h⟩
  · exact h
  · exact h.but _
end
end
section
open Go.RowKit Go.Deep
open Go.ChangeMaps (setBlock)
/-- The longer list. -/
def vOn1 (base : Nat) (A : Option Addr) (n c : Nat) (l : List Int) (y : Int) (w : World) (v : Value) (W : World) : Prop := ∃ g c', v = .slice (some ⟨g, 0, none⟩) (n + 1) c' ∧ W.ownsRow base 3 1 (.slice (some ⟨g, 0, none⟩) (n + 1) c') (n + 1) (l.map vi ++ [vi y]) ∧ Onto1 A c g c' w W
theorem Onto1.next {A : Option Addr} {c g c' : Nat} {w W W' : World} (h : Onto1 A c g c' w W) (hb : newer W W') : Onto1 A c g c' w W' := by
  rcases h with ⟨h1, h2, h3⟩ | ⟨h1, h2⟩
  · exact .inl ⟨h1, h2, grown_below h3 hb⟩
  · exact .inr ⟨h1, grown_below h2 hb⟩
theorem Onto1.ahead {A : Option Addr} {c g c' : Nat} {w W W' : World} (hb : newer w W) (h : Onto1 A c g c' W W') : Onto1 A c g c' w W' := by
  rcases h with ⟨h1, h2, h3⟩ | ⟨h1, h2⟩
  · exact .inl ⟨h1, h2, grown_trans' (grown_of_newer hb _) h3⟩
  · exact .inr ⟨Nat.le_trans hb.size h1, grown_trans' (grown_of_newer hb _) h2⟩
theorem vOn1_st {base : Nat} {A : Option Addr} {n c : Nat} {l : List Int} {y : Int} {w : World} : ∀ v W W', vOn1 base A n c l y w v W → newer W W' → vOn1 base A n c l y w v W' := fun _ _ _ ⟨g, c', h1, h2, h3⟩ hb => ⟨g, c', h1, own_below h2 hb, h3.next hb⟩
end
section
open Go.RowKit Go.Deep
end
section
open Go.RowKit Go.Shelf Go.Deep
end
section
open Go.RowKit Go.Shelf Go.Deep
def markD (D : Nat) : Deferred := { target := .collected D, args := #[] }
/-- The marks of ranges over functions that are over. -/
structure MarksOk (Ds : List Nat) (W : World) : Prop where
  nd : Ds.Nodup
  at_ : ∀ D ∈ Ds, W.heap[D]? = some (.deferred (some []))
theorem MarksOk.lt {Ds : List Nat} {W : World} (h : MarksOk Ds W) : ∀ D ∈ Ds, D < W.heap.size := fun D hD => (Array.getElem?_eq_some_iff.1 (h.at_ D hD)).1
theorem MarksOk.next {Ds : List Nat} {W W' : World} (h : MarksOk Ds W) (hb : newer W W') : MarksOk Ds W' := ⟨h.nd, fun D hD => (hb.block D (h.lt D hD)).trans (h.at_ D hD)⟩
theorem MarksOk.grown {Ds : List Nat} {W W' : World} {d : Nat} (h : MarksOk Ds W) (hg : W.grownBy W' (some d)) (hd : d ∉ Ds) : MarksOk Ds W' := ⟨h.nd, fun D hD => (hg.block D (h.lt D hD) (by intro e; injection e with e; rw [e] at hD; exact hd hD)).trans (h.at_ D hD)⟩
theorem MarksOk.far {Ds : List Nat} {W : World} (h : MarksOk Ds W) {k : Nat} {t : TypeId} {cs : Array Value} (hw : Whole W k t cs) : k ∉ Ds := fun hm => by
  have := h.at_ k hm
  unfold Whole at hw
  rw [hw] at this
  cases this
theorem leaves_marks {F : Fence} {n : Nat} {P : Program} {fn : Func} {tmps : Array Value} {R : Ending → World → Prop} : ∀ (Ds : List Nat) (W : World), MarksOk Ds W →
    (∀ W', W'.os = W.os → W'.tape = W.tape → W'.output = W.output → W'.heap.size = W.heap.size → (∀ k, k ∉ Ds → W'.heap[k]? = W.heap[k]?) → ∃ v, (results fn tmps).run P W' = .ok v W' ∧ R (.returned v) W') → LeavesInM F n P fn tmps R (Ds.map markD) .returning W
  | [], W, _, h => h W rfl rfl rfl rfl fun _ _ => rfl
  | D :: Ds, W, hm, h => by
    have hnd := List.nodup_cons.1 hm.nd
    refine ⟨by simp, .inl ⟨D, _, rfl, run_takeDeferred (hm.at_ D (by simp)), leaves_marks Ds _ ⟨hnd.2, fun E hE => ?_⟩ fun W' h1 h2 h3 h4 h5 => h W' h1 h2 h3 (h4.trans (by simp)) fun k hk => ?_⟩⟩
    · exact (World.putObj_heap_other (fun e => hnd.1 (by rw [← e]; exact hE))).trans (hm.at_ E (List.mem_cons_of_mem _ hE))
    · rw [List.mem_cons, not_or] at hk
      exact (h5 k hk.2).trans (World.putObj_heap_other hk.1)
end
section
open Go.RowKit Go.Deep
/-- append of a list, perhaps empty, onto an empty row without room. -/
theorem wp_append_copy {α : Type} {enc : α → List Value} {size : Nat} {P : Program} {w : World} {o : Oper} {a : Act} {K : Act → World → Prop} {Q : Exit → Act → World → Prop} (s x : Operand) (t e : TypeId) (i0 : TypeInfo) (z : Value) (bytes : Nat)
    (ht : P.underlying t = some (.slice e)) (hi0 : P.info? e = some i0) (hz0 : i0.zero = some z) (hz1 : i0.size = size) (hz2 : i0.bytes = bytes) (hzs : z.cells.size = size) (hs0 : 0 < size) (hby : bytes ≤ 1000) (he : ∀ x, (enc x).length = size)
    (ho : o.op = .call { callee := .builtin .append, args := #[s, x], argTypes := #[t, t] }) (nb : Nat) (hs : a.eval s = .slice (some ⟨nb, 0, none⟩) 0 0)
    (l : List α) (A : Option Addr) (cp : Nat) (hx : a.eval x = .slice A l.length cp) (hl : l.length ≤ 1000) (hr : Row enc size w w.heap.size A l)
    (h : ∀ B c w', Row enc size w' w'.heap.size (some B) l → Below w.heap.size w w' → l.length ≤ c → (B.block = nb ∨ w.heap.size ≤ B.block) → K (a.put o.dst (.slice (some B) l.length c)) w') : Oper.wp P o a w K Q := by
  rcases Nat.eq_zero_or_pos l.length with h0 | hpos
  · obtain rfl : l = [] := List.eq_nil_of_length_eq_zero h0
    have hrun : (Builtin.append_ #[t, t] o.type #[.slice (some ⟨nb, 0, none⟩) 0 0, .slice A 0 cp]).run P w = .ok (.slice (some ⟨nb, 0, none⟩) 0 0) w := by
      have hu := run_underlying (P := P) (w := w) ht
      rcases A with _ | ad <;> simp [Builtin.append_, hu, sizeOf, typeInfo, hi0, Builtin.lenOf, Builtin.firstCells, loadCells, loadCellsFrom, storeCells]
    unfold Oper.wp
    simp [execOp, ho, resolve, invoke, builtin, hs, hx, hrun, Result.andThen]
    exact h _ _ w (Row.nil _) (Below.refl _ _) (Nat.le_refl _) (.inl rfl)
  · obtain ⟨b, off, rfl, hb, hc⟩ := hr (by intro e; rw [e] at hpos; simp at hpos)
    refine wp_append_new s x t ho e i0 z size bytes ht hi0 hz0 hz1 hz2 hzs hs0 ⟨nb, 0, none⟩ hs ⟨b, off, none⟩ l.length cp (l.flatMap enc) hx (by rw [flat_len (enc := enc) (s := size) he]) (row_news (enc := enc) (s := size) hs0 he hr) hpos (by unfold maxLen; omega) (by have := Nat.mul_le_mul hl hby; omega) ?_
    intro gg cap w' hown hbl
    exact h _ _ w' (row_of_own hs0 he hown) hbl (own_room hown).1 (.inr (own_ge_slice hown))
/-- A list copied. -/
def copiedC (w : World) (l : List Int) (e : Ending) (w' : World) : Prop := ∃ A c, e = .returned (.slice A l.length c) ∧ l.length ≤ c ∧ Row intL 1 w' w'.heap.size A l ∧ Below w.heap.size w w' ∧ ∀ a, A = some a → w.heap.size ≤ a.block
end
section
open Go.RowKit Go.Deep
end
section
open Go.RowKit Go.Deep
/-- append of a list, perhaps empty, onto an empty row of one's own. -/
theorem wp_append_owncopy {α : Type} {enc : α → List Value} {size : Nat} {P : Program} {w : World} {o : Oper} {a : Act} {K : Act → World → Prop} {Q : Exit → Act → World → Prop} (base : Nat) (s x : Operand) (t e : TypeId) (i0 : TypeInfo) (z : Value) (bytes : Nat)
    (ht : P.underlying t = some (.slice e)) (hi0 : P.info? e = some i0) (hz0 : i0.zero = some z) (hz1 : i0.size = size) (hz2 : i0.bytes = bytes) (hzs : z.cells.size = size) (hs0 : 0 < size) (hby : bytes ≤ 1000) (he : ∀ x, (enc x).length = size)
    (ho : o.op = .call { callee := .builtin .append, args := #[s, x], argTypes := #[t, t] }) (nb : Nat) (hs : a.eval s = .slice (some ⟨nb, 0, none⟩) 0 0) (hnb : base ≤ nb) (hwn : Whole w nb e #[])
    (l : List α) (A : Option Addr) (cp : Nat) (hx : a.eval x = .slice A l.length cp) (hl : l.length ≤ 1000) (hr : Row enc size w w.heap.size A l) (hbase : base ≤ w.heap.size)
    (h : ∀ B c w', w'.ownsRow base e size (.slice B l.length c) l.length (l.flatMap enc) → Below w.heap.size w w' → l.length ≤ c → K (a.put o.dst (.slice B l.length c)) w') : Oper.wp P o a w K Q := by
  rcases Nat.eq_zero_or_pos l.length with h0 | hpos
  · obtain rfl : l = [] := List.eq_nil_of_length_eq_zero h0
    have hrun : (Builtin.append_ #[t, t] o.type #[.slice (some ⟨nb, 0, none⟩) 0 0, .slice A 0 cp]).run P w = .ok (.slice (some ⟨nb, 0, none⟩) 0 0) w := by
      have hu := run_underlying (P := P) (w := w) ht
      rcases A with _ | ad <;> simp [Builtin.append_, hu, sizeOf, typeInfo, hi0, Builtin.lenOf, Builtin.firstCells, loadCells, loadCellsFrom, storeCells]
    unfold Oper.wp
    simp [execOp, ho, resolve, invoke, builtin, hs, hx, hrun, Result.andThen]
    exact h _ _ w ⟨by simp, .inr ⟨nb, 0, #[], rfl, hnb, hwn, Nat.le_refl _, by unfold maxLen; omega, by simp, by simp⟩⟩ (Below.refl _ _) (Nat.le_refl _)
  · obtain ⟨b, off, rfl, hb, hc⟩ := hr (by intro e; rw [e] at hpos; simp at hpos)
    refine wp_append_new s x t ho e i0 z size bytes ht hi0 hz0 hz1 hz2 hzs hs0 ⟨nb, 0, none⟩ hs ⟨b, off, none⟩ l.length cp (l.flatMap enc) hx (by rw [flat_len (enc := enc) (s := size) he]) (row_news (enc := enc) (s := size) hs0 he hr) hpos (by unfold maxLen; omega) (by have := Nat.mul_le_mul hl hby; omega) ?_
    intro gg cap w' hown hbl
    exact h _ _ w' (own_more hown hbase) hbl (own_room hown).1
section
theorem own_apart {w : World} {base base' : Nat} {e e' : TypeId} {size size' n n' : Nat} {v v' : Value} {xs xs' : List Value} (h : w.ownsRow base e size v n xs) (h' : w.ownsRow base' e' size' v' n' xs') (hne : e ≠ e') : v.ownBlock = none ∨ v.ownBlock ≠ v'.ownBlock := by
  rcases Option.eq_none_or_eq_some v.ownBlock with h0 | ⟨q, h0⟩
  · exact .inl h0
  · exact .inr fun h2 => own_own_ne h h' hne q h0 (h2 ▸ h0)
end
end
section
open Go.RowKit Go.Deep
def vArr (B n : Nat) (cs : Array Value) (v : Value) (W : World) : Prop := ∃ nb, v = .slice (some ⟨nb, 0, none⟩) n n ∧ B ≤ nb ∧ Whole W nb 3 cs
theorem vArr_st {B n : Nat} {cs : Array Value} : ∀ v W W', vArr B n cs v W → newer W W' → vArr B n cs v W' := fun _ _ _ ⟨nb, h1, h2, h3⟩ hb => ⟨nb, h1, h2, h3.below hb h3.lt⟩
end
section
open Go.RowKit Go.Deep
end

section
open Go.RowKit Go.Deep
end
section
open Go.ChangeShapes Go.WideShapes Go.ChangeAt Go.RowKit Go.Deep
theorem map_intL : ∀ l : List Int, l.map vi = l.flatMap intL
  | [] => rfl
  | x :: l => by
    rw [List.map_cons, List.flatMap_cons, ← map_intL l]
    rfl
end
section
open Go.ChangeShapes Go.WideShapes Go.ChangeAt Go.RowKit Go.Deep
/-- A byte; a word of sixteen bits. -/
structure Byt where
  n : Int
  lo : 0 ≤ n
  hi : n ≤ 255
abbrev byL (x : Byt) : List Value := [.int .u8 x.n]
theorem row_byte {w : World} {B : Nat} {A : Option Addr} {l : List Byt} (h : Row byL 1 w B A l) {k : Nat} {c : Byt} (hk : l[k]? = some c) :
    ∃ b off, A = some ⟨b, off, none⟩ ∧ b < B ∧ w.cell? ⟨b, off + k, none⟩ = some (.int .u8 c.n) := by
  obtain ⟨b, off, e, hb, hc⟩ := h (ne_nil_of_get hk)
  exact ⟨b, off, e, hb, by simpa using hc k c hk 0 _ rfl⟩
end

section
open Go.ChangeShapes Go.WideShapes Go.ChangeAt Go.RowKit Go.Deep
end
section
open Go.ChangeShapes Go.WideShapes Go.ChangeAt Go.RowKit Go.Deep
end

section
open Go.RowKit Go.Deep
end
section
open Go.RowKit Go.Deep
end
section
open Go.ChangeShapes Go.WideShapes Go.ChangeAt Go.RowKit Go.Deep
end
section
open Go.ChangeShapes Go.WideShapes Go.ChangeAt Go.RowKit Go.Deep
end
section
open Go.RowKit Go.Deep
end



section
open Go.RowKit Go.Deep

end
end

section
/-- The beds beside a bed. -/
def nearL (n b : Nat) : List Nat := List.range' (b - 1) (min (n - 1) (b + 1) + 1 - (b - 1))
theorem mem_near {n b x : Nat} (hb : b < n) : x ∈ nearL n b ↔ x < n ∧ b ≤ x + 1 ∧ x ≤ b + 1 := by
  unfold nearL
  rw [List.mem_range'_1]
  omega
def minL (z : Int) (l : List Int) : Int := l.foldl mnI z
theorem minL_le : ∀ (l : List Int) (z : Int), minL z l ≤ z ∧ ∀ x ∈ l, minL z l ≤ x
  | [], z => ⟨Int.le_refl _, fun x h => by simp at h⟩
  | y :: l, z => by
    have h := minL_le l (mnI z y)
    have h2 : mnI z y ≤ z ∧ mnI z y ≤ y := by unfold mnI; split <;> omega
    refine ⟨Int.le_trans h.1 h2.1, fun x hx => ?_⟩
    rcases List.mem_cons.1 hx with rfl | hx
    · exact Int.le_trans h.1 h2.2
    · exact h.2 x hx
theorem minL_mem : ∀ (l : List Int) (z : Int), minL z l = z ∨ minL z l ∈ l
  | [], z => .inl rfl
  | y :: l, z => by
    rcases minL_mem l (mnI z y) with h | h
    · have h2 : mnI z y = z ∨ mnI z y = y := by unfold mnI; split <;> simp
      rcases h2 with h2 | h2
      · exact .inl (h.trans h2)
      · exact .inr (List.mem_cons.2 (.inl (h.trans h2)))
    · exact .inr (List.mem_cons.2 (.inr h))
/-- What the cheapest way costs from a bed of a column through so many more columns. -/
def restN (c : Nat → Nat → Int) (n : Nat) (big : Int) : Nat → Nat → Nat → Int
  | 0, k, b => c k b
  | m + 1, k, b => c k b + minL big ((nearL n b).map (restN c n big m (k + 1)))
def costP (c : Nat → Nat → Int) : Nat → List Nat → Int
  | _, [] => 0
  | k, b :: t => c k b + costP c (k + 1) t
/-- Is a list of beds a way? -/
def wayB (n : Nat) : List Nat → Prop
  | [] => True
  | b :: t => b < n ∧ (∀ x, t.head? = some x → b ≤ x + 1 ∧ x ≤ b + 1) ∧ wayB n t
theorem rest_le {c : Nat → Nat → Int} {n : Nat} {big : Int} : ∀ (t : List Nat) (k b : Nat), wayB n (b :: t) → restN c n big t.length k b ≤ costP c k (b :: t)
  | [], k, b, _ => by simp [restN, costP]
  | x :: t, k, b, h => by
    obtain ⟨hb, hx, ht⟩ := h
    have ih := rest_le (c := c) (big := big) t (k + 1) x ht
    have hx2 := hx x rfl
    have h1 := (minL_le ((nearL n b).map (restN c n big t.length (k + 1))) big).2 _ (List.mem_map.2 ⟨x, (mem_near hb).2 ⟨ht.1, hx2⟩, rfl⟩)
    simp only [List.length_cons, restN, costP] at ih ⊢
    omega
/-- The best bed of the next column. -/
def stepB (c : Nat → Nat → Int) (n : Nat) (big : Int) (m k b : Nat) : Nat := (nearL n b).foldl (fun best x => if restN c n big m (k + 1) x < restN c n big m (k + 1) best then x else best) b
theorem fold_best {f : Nat → Int} : ∀ (l : List Nat) (b : Nat), (l.foldl (fun best x => if f x < f best then x else best) b = b ∨ l.foldl (fun best x => if f x < f best then x else best) b ∈ l) ∧ f (l.foldl (fun best x => if f x < f best then x else best) b) ≤ f b ∧ ∀ x ∈ l, f (l.foldl (fun best x => if f x < f best then x else best) b) ≤ f x
  | [], b => ⟨.inl rfl, Int.le_refl _, fun x h => by simp at h⟩
  | y :: l, b => by
    rw [List.foldl_cons]
    by_cases hy : f y < f b
    · rw [if_pos hy]
      obtain ⟨h1, h2, h3⟩ := fold_best (f := f) l y
      refine ⟨.inr ?_, by omega, fun x hx => ?_⟩
      · rcases h1 with h1 | h1
        · rw [h1]; exact List.mem_cons_self
        · exact List.mem_cons_of_mem _ h1
      · rcases List.mem_cons.1 hx with rfl | hx
        · exact h2
        · exact h3 x hx
    · rw [if_neg hy]
      obtain ⟨h1, h2, h3⟩ := fold_best (f := f) l b
      refine ⟨?_, h2, fun x hx => ?_⟩
      · rcases h1 with h1 | h1
        · exact .inl h1
        · exact .inr (List.mem_cons_of_mem _ h1)
      · rcases List.mem_cons.1 hx with rfl | hx
        · omega
        · exact h3 x hx
theorem step_mem {c : Nat → Nat → Int} {n : Nat} {big : Int} {m k b : Nat} (hb : b < n) : stepB c n big m k b < n ∧ b ≤ stepB c n big m k b + 1 ∧ stepB c n big m k b ≤ b + 1 := by
  rcases (fold_best (f := restN c n big m (k + 1)) (nearL n b) b).1 with h | h
  · unfold stepB
    rw [h]
    omega
  · exact (mem_near hb).1 h
theorem rest_abs {c : Nat → Nat → Int} {n : Nat} {big B : Int} (hc : ∀ k b, b < n → -B ≤ c k b ∧ c k b ≤ B) (h0 : 0 ≤ B) : ∀ (m k b : Nat), b < n → (m : Int) * B ≤ big → -((m + 1 : Nat) : Int) * B ≤ restN c n big m k b ∧ restN c n big m k b ≤ ((m + 1 : Nat) : Int) * B
  | 0, k, b, hb, _ => by have := hc k b hb; simp [restN]; omega
  | m + 1, k, b, hb, hm => by
    have e1 : ((m + 1 : Nat) : Int) * B = m * B + B := by rw [Int.natCast_add, Int.add_mul]; simp
    have e2 : ((m + 1 + 1 : Nat) : Int) * B = m * B + B + B := by rw [Int.natCast_add, Int.add_mul, e1]; simp
    have hmb : 0 ≤ (m : Int) * B := Int.mul_nonneg (by omega) h0
    have ih := fun x hx => rest_abs (big := big) hc h0 m (k + 1) x hx (by omega)
    have hcb := hc k b hb
    have h1 := (minL_le ((nearL n b).map (restN c n big m (k + 1))) big).2 _ (List.mem_map.2 ⟨b, (mem_near hb).2 (by omega), rfl⟩)
    have h2 := (ih b hb).2
    have h3 : -(m * B + B) ≤ minL big ((nearL n b).map (restN c n big m (k + 1))) := by
      rcases minL_mem ((nearL n b).map (restN c n big m (k + 1))) big with h | h
      · rw [h]; omega
      · obtain ⟨x, hx, hxe⟩ := List.mem_map.1 h
        have := (ih x ((mem_near hb).1 hx).1).1
        rw [Int.neg_mul, e1] at this
        omega
    rw [Int.neg_mul, e2]
    rw [e1] at h2
    simp only [restN]
    omega
theorem rest_step {c : Nat → Nat → Int} {n : Nat} {big B : Int} (hc : ∀ k b, b < n → -B ≤ c k b ∧ c k b ≤ B) (h0 : 0 ≤ B) {m k b : Nat} (hb : b < n) (hm : ((m + 1 : Nat) : Int) * B ≤ big) : restN c n big (m + 1) k b = c k b + restN c n big m (k + 1) (stepB c n big m k b) := by
  have e1 : ((m + 1 : Nat) : Int) * B = m * B + B := by rw [Int.natCast_add, Int.add_mul]; simp
  have hmb : 0 ≤ (m : Int) * B := Int.mul_nonneg (by omega) h0
  simp only [restN]
  congr 1
  obtain ⟨h1, h2, h3⟩ := fold_best (f := restN c n big m (k + 1)) (nearL n b) b
  have hs := step_mem (c := c) (big := big) (m := m) (k := k) hb
  have h4 := (minL_le ((nearL n b).map (restN c n big m (k + 1))) big).2 _ (List.mem_map.2 ⟨stepB c n big m k b, (mem_near hb).2 hs, rfl⟩)
  have h5 := (rest_abs (big := big) hc h0 m (k + 1) b hb (by omega)).2
  rcases minL_mem ((nearL n b).map (restN c n big m (k + 1))) big with h | h
  · have h7 : restN c n big m (k + 1) (stepB c n big m k b) ≤ restN c n big m (k + 1) b := h2
    omega
  · obtain ⟨x, hx, hxe⟩ := List.mem_map.1 h
    have h6 : restN c n big m (k + 1) (stepB c n big m k b) ≤ restN c n big m (k + 1) x := h3 x hx
    omega
/-- The way that the program walks. -/
def pathB (c : Nat → Nat → Int) (n : Nat) (big : Int) : Nat → Nat → Nat → List Nat
  | 0, _, b => [b]
  | m + 1, k, b => b :: pathB c n big m (k + 1) (stepB c n big m k b)
theorem path_len {c : Nat → Nat → Int} {n : Nat} {big : Int} : ∀ (m k b : Nat), (pathB c n big m k b).length = m + 1
  | 0, _, _ => rfl
  | m + 1, k, b => by simp [pathB, path_len m]
theorem path_head {c : Nat → Nat → Int} {n : Nat} {big : Int} : ∀ (m k b : Nat), (pathB c n big m k b).head? = some b
  | 0, _, _ => rfl
  | _ + 1, _, _ => rfl
theorem path_way {c : Nat → Nat → Int} {n : Nat} {big : Int} : ∀ (m k b : Nat), b < n → wayB n (pathB c n big m k b)
  | 0, _, _, h => ⟨h, fun x hx => by simp at hx, trivial⟩
  | m + 1, k, b, h => by
    have hs := step_mem (c := c) (big := big) (m := m) (k := k) h
    refine ⟨h, fun x hx => ?_, path_way m (k + 1) _ hs.1⟩
    rw [path_head] at hx
    injection hx with hx
    omega
theorem path_cost {c : Nat → Nat → Int} {n : Nat} {big B : Int} (hc : ∀ k b, b < n → -B ≤ c k b ∧ c k b ≤ B) (h0 : 0 ≤ B) : ∀ (m k b : Nat), b < n → (m : Int) * B ≤ big → costP c k (pathB c n big m k b) = restN c n big m k b
  | 0, k, b, _, _ => by simp [pathB, costP, restN]
  | m + 1, k, b, hb, hm => by
    have e1 : ((m + 1 : Nat) : Int) * B = m * B + B := by rw [Int.natCast_add, Int.add_mul]; simp
    rw [rest_step hc h0 hb hm]
    simp only [pathB, costP]
    rw [path_cost hc h0 m (k + 1) _ (step_mem hb).1 (by omega)]
/-- The cheapest first bed. -/
def firstB (f : Nat → Int) (big : Int) : Nat → Int × Nat
  | 0 => (big, 0)
  | b + 1 => if f b < (firstB f big b).1 then (f b, b) else firstB f big b
theorem first_is {f : Nat → Int} {big : Int} : ∀ n, (firstB f big n).1 ≤ big ∧ (∀ b, b < n → (firstB f big n).1 ≤ f b) ∧ (firstB f big n = (big, 0) ∨ ((firstB f big n).2 < n ∧ (firstB f big n).1 = f (firstB f big n).2))
  | 0 => ⟨Int.le_refl _, fun b h => by omega, .inl rfl⟩
  | n + 1 => by
    obtain ⟨h1, h2, h3⟩ := first_is (f := f) (big := big) n
    unfold firstB
    by_cases h : f n < (firstB f big n).1
    · rw [if_pos h]
      refine ⟨by show f n ≤ big; omega, fun b hb => ?_, .inr ⟨Nat.lt_succ_self n, rfl⟩⟩
      show f n ≤ f b
      by_cases he : b = n
      · rw [he]; exact Int.le_refl _
      · have := h2 b (by omega); omega
    · rw [if_neg h]
      refine ⟨h1, fun b hb => ?_, ?_⟩
      · by_cases he : b = n
        · rw [he]; omega
        · exact h2 b (by omega)
      · rcases h3 with h3 | h3
        · exact .inl h3
        · exact .inr ⟨by omega, h3.2⟩
/-- The cheapest surface from a column through so many more, and what it costs. -/
def cheapN (c : Nat → Nat → Int) (n : Nat) (big : Int) (m k : Nat) : List Nat × Int := (pathB c n big m k (firstB (restN c n big m k) big n).2, (firstB (restN c n big m k) big n).1)
theorem cheap_is {c : Nat → Nat → Int} {n : Nat} {big B : Int} (hc : ∀ k b, b < n → -B ≤ c k b ∧ c k b ≤ B) (h0 : 0 ≤ B) (hn : 0 < n) {m k : Nat} (hm : ((m + 1 : Nat) : Int) * B < big) :
    (cheapN c n big m k).1.length = m + 1 ∧ wayB n (cheapN c n big m k).1 ∧ costP c k (cheapN c n big m k).1 = (cheapN c n big m k).2 ∧ ∀ l, l.length = m + 1 → wayB n l → (cheapN c n big m k).2 ≤ costP c k l := by
  have e1 : ((m + 1 : Nat) : Int) * B = m * B + B := by rw [Int.natCast_add, Int.add_mul]; simp
  have hmb : 0 ≤ (m : Int) * B := Int.mul_nonneg (by omega) h0
  obtain ⟨h1, h2, h3⟩ := first_is (f := restN c n big m k) (big := big) n
  have hne : firstB (restN c n big m k) big n ≠ (big, 0) := by
    intro e
    have h4 := h2 0 hn
    have h5 := (rest_abs (big := big) hc h0 m k 0 hn (by omega)).2
    rw [e] at h4
    dsimp only at h4
    omega
  obtain ⟨h6, h7⟩ := h3.resolve_left hne
  refine ⟨path_len _ _ _, path_way _ _ _ h6, ?_, fun l hl hw => ?_⟩
  · unfold cheapN
    dsimp only
    rw [path_cost hc h0 m k _ h6 (by omega), h7]
  · cases l with
    | nil => simp at hl
    | cons b t =>
      have h8 := rest_le (c := c) (big := big) t k b hw
      have h9 := h2 b hw.1
      have : t.length = m := by simpa using hl
      rw [this] at h8
      exact Int.le_trans h9 h8
def sumH (h : Nat → Nat → Int) : Nat → List Nat → Int
  | _, [] => 0
  | k, b :: t => h k b + sumH h (k + 1) t
theorem cost_sums {h d : Nat → Nat → Int} {f : Int} : ∀ (l : List Nat) (k : Nat), costP (fun k b => 1000 * h k b - f * d k b) k l = 1000 * sumH h k l - f * sumH d k l
  | [], k => by simp [costP, sumH]
  | b :: t, k => by
    have ih := cost_sums (h := h) (d := d) (f := f) t (k + 1)
    simp only [costP, sumH, Int.mul_add] at ih ⊢
    omega
theorem sumH_nonneg {h : Nat → Nat → Int} (hh : ∀ k b, 0 ≤ h k b) : ∀ (l : List Nat) (k : Nat), 0 ≤ sumH h k l
  | [], k => Int.le_refl _
  | b :: t, k => by
    have := hh k b
    have := sumH_nonneg hh t (k + 1)
    simp only [sumH]
    omega
theorem neg_iff {H D f : Int} (hH : 0 ≤ H) (hf : 0 ≤ f) : 1000 * H - f * D < 0 ↔ 1 ≤ D ∧ 1000 * H / D < f := by
  constructor
  · intro h
    have hD : 1 ≤ D := by
      by_cases h1 : D < 1
      · have : f * D ≤ 0 := Int.mul_nonpos_of_nonneg_of_nonpos hf (by omega)
        omega
      · omega
    refine ⟨hD, ?_⟩
    rw [Int.ediv_lt_iff_lt_mul (by omega)]
    omega
  · rintro ⟨h1, h2⟩
    rw [Int.ediv_lt_iff_lt_mul (by omega)] at h2
    omega
/-- The factor of what holds and what drives. -/
def factorN (H D : Int) : Int := mnI 10000 (1000 * H / D)
theorem factor_lt {H D f : Int} (h : f ≤ 10000) : factorN H D < f ↔ 1000 * H / D < f := by
  unfold factorN mnI
  split <;> omega
/-- Is a list of beds, from a column, a surface? -/
def SurfB (n cols K k : Nat) (l : List Nat) : Prop := K ≤ l.length ∧ k + l.length ≤ cols ∧ wayB n l
/-- Does some surface cost less than nothing? -/
def LowB (c : Nat → Nat → Int) (n cols K : Nat) : Prop := ∃ k l, SurfB n cols K k l ∧ costP c k l < 0
/-- The first number from a on, below a + n, that is right; else a + n. -/
def firstN (p : Nat → Bool) (a : Nat) : Nat → Nat
  | 0 => a
  | n + 1 => if p a then a else firstN p (a + 1) n
theorem firstN_is {p : Nat → Bool} : ∀ (n a : Nat), a ≤ firstN p a n ∧ firstN p a n ≤ a + n ∧ (∀ m, a ≤ m → m < firstN p a n → p m = false) ∧ (firstN p a n < a + n → p (firstN p a n) = true)
  | 0, a => ⟨Nat.le_refl _, Nat.le_refl _, fun m h1 h2 => by simp only [firstN] at h2; omega, fun h => by simp only [firstN] at h; omega⟩
  | n + 1, a => by
    unfold firstN
    cases hp : p a with
    | true =>
      rw [if_pos rfl]
      exact ⟨Nat.le_refl _, by omega, fun m h1 h2 => by omega, fun _ => hp⟩
    | false =>
      rw [if_neg (by decide)]
      obtain ⟨h1, h2, h3, h4⟩ := firstN_is (p := p) n (a + 1)
      refine ⟨by omega, by omega, fun m hm1 hm2 => ?_, fun h => h4 (by omega)⟩
      by_cases he : m = a
      · rw [he]; exact hp
      · exact h3 m (by omega) hm2
theorem firstN_unique {p : Nat → Bool} {a n L : Nat} (h1 : a ≤ L) (h2 : L ≤ a + n) (h3 : ∀ m, a ≤ m → m < L → p m = false) (h4 : L < a + n → p L = true) : L = firstN p a n := by
  obtain ⟨g1, g2, g3, g4⟩ := firstN_is (p := p) n a
  rcases Nat.lt_trichotomy L (firstN p a n) with h | h | h
  · have := g3 L h1 h
    rw [h4 (by omega)] at this
    cases this
  · exact h
  · have := h3 _ g1 h
    rw [g4 (by omega)] at this
    cases this
/-- The first cheap surface from a column, through m further columns or more. -/
def lowIn (c : Nat → Nat → Int) (n : Nat) (big : Int) (k : Nat) : Nat → Nat → Option (List Nat)
  | _, 0 => none
  | m, j + 1 => if (cheapN c n big m k).2 < 0 then some (cheapN c n big m k).1 else lowIn c n big k (m + 1) j
/-- The first cheap surface. -/
def lowS (c : Nat → Nat → Int) (n : Nat) (big : Int) (cols K : Nat) : Nat → Nat → Option (Nat × List Nat)
  | _, 0 => none
  | k, j + 1 => match lowIn c n big k (K - 1) (cols - (k + (K - 1))) with
    | some l => some (k, l)
    | none => lowS c n big cols K (k + 1) j
section
variable {c : Nat → Nat → Int} {n cols K : Nat} {big B : Int}
theorem lowIn_is (hc : ∀ k b, b < n → -B ≤ c k b ∧ c k b ≤ B) (h0 : 0 ≤ B) (hn : 0 < n) (k : Nat) : ∀ (j m : Nat), ((m + j : Nat) : Int) * B < big →
    (lowIn c n big k m j = none → ∀ i l, i < j → l.length = m + i + 1 → wayB n l → 0 ≤ costP c k l) ∧ (∀ l, lowIn c n big k m j = some l → ∃ i, i < j ∧ l.length = m + i + 1 ∧ wayB n l ∧ costP c k l < 0)
  | 0, m, _ => ⟨fun _ i l h => by omega, fun l h => by simp [lowIn] at h⟩
  | j + 1, m, hb => by
    have e1 : ((m + 1 : Nat) : Int) * B ≤ ((m + (j + 1) : Nat) : Int) * B := Int.mul_le_mul_of_nonneg_right (by omega) h0
    obtain ⟨g1, g2, g3, g4⟩ := cheap_is (big := big) hc h0 hn (m := m) (k := k) (by omega)
    obtain ⟨i1, i2⟩ := lowIn_is hc h0 hn k j (m + 1) (by rw [show m + 1 + j = m + (j + 1) by omega]; exact hb)
    unfold lowIn
    by_cases h : (cheapN c n big m k).2 < 0
    · rw [if_pos h]
      refine ⟨fun h => by simp at h, fun l hl => ⟨0, by omega, ?_⟩⟩
      injection hl with hl
      subst hl
      exact ⟨by omega, g2, by omega⟩
    · rw [if_neg h]
      refine ⟨fun hl i l hi hlen hw => ?_, fun l hl => ?_⟩
      · by_cases he : i = 0
        · subst he
          have := g4 l (by omega) hw
          omega
        · exact i1 hl (i - 1) l (by omega) (by omega) hw
      · obtain ⟨i, q1, q2, q3⟩ := i2 l hl
        exact ⟨i + 1, by omega, by omega, q3⟩
theorem lowS_is (hc : ∀ k b, b < n → -B ≤ c k b ∧ c k b ≤ B) (h0 : 0 ≤ B) (hn : 0 < n) (hK : 1 ≤ K) (hb : ((cols + K : Nat) : Int) * B < big) : ∀ (j k : Nat), k + j = cols →
    (lowS c n big cols K k j = none → ∀ x l, k ≤ x → SurfB n cols K x l → 0 ≤ costP c x l) ∧ (∀ x l, lowS c n big cols K k j = some (x, l) → SurfB n cols K x l ∧ costP c x l < 0)
  | 0, k, hk => ⟨fun _ x l hx hs => by have := hs.1; have := hs.2.1; omega, fun x l h => by simp [lowS] at h⟩
  | j + 1, k, hk => by
    have e1 : ((K - 1 + (cols - (k + (K - 1))) : Nat) : Int) * B ≤ ((cols + K : Nat) : Int) * B := Int.mul_le_mul_of_nonneg_right (by omega) h0
    obtain ⟨g1, g2⟩ := lowIn_is (big := big) hc h0 hn k (cols - (k + (K - 1))) (K - 1) (by omega)
    obtain ⟨i1, i2⟩ := lowS_is hc h0 hn hK hb j (k + 1) (by omega)
    unfold lowS
    cases hl : lowIn c n big k (K - 1) (cols - (k + (K - 1))) with
    | some l =>
      refine ⟨fun h => by simp at h, fun x l' h => ?_⟩
      simp only [Option.some.injEq, Prod.mk.injEq] at h
      obtain ⟨rfl, rfl⟩ := h
      obtain ⟨i, q1, q2, q3, q4⟩ := g2 l hl
      exact ⟨⟨by omega, by omega, q3⟩, q4⟩
    | none =>
      refine ⟨fun h x l hx hs => ?_, fun x l h => i2 x l h⟩
      by_cases he : x = k
      · subst he
        have h1 := hs.1
        have h2 := hs.2.1
        exact g1 hl (l.length - K) l (by omega) (by omega) hs.2.2
      · exact i1 h x l (by omega) hs
theorem lowS_iff (hc : ∀ k b, b < n → -B ≤ c k b ∧ c k b ≤ B) (h0 : 0 ≤ B) (hn : 0 < n) (hK : 1 ≤ K) (hb : ((cols + K : Nat) : Int) * B < big) : (lowS c n big cols K 0 cols).isSome = true ↔ LowB c n cols K := by
  obtain ⟨h1, h2⟩ := lowS_is (cols := cols) hc h0 hn hK hb cols 0 (by omega)
  constructor
  · intro h
    obtain ⟨⟨x, l⟩, hx⟩ := Option.isSome_iff_exists.1 h
    exact ⟨x, l, h2 x l hx⟩
  · rintro ⟨x, l, hs, hcs⟩
    cases hl : lowS c n big cols K 0 cols with
    | some _ => rfl
    | none =>
      have := h1 hl x l (Nat.zero_le _) hs
      omega
/-- Does a column lie in a surface that costs less than nothing? -/
def moveB (c : Nat → Nat → Int) (n : Nat) (big : Int) (cols K x : Nat) : Bool := (List.range cols).any fun k => (List.range (cols - (k + (K - 1)))).any fun j => decide ((cheapN c n big (K - 1 + j) k).2 < 0) && (decide (k ≤ x) && decide (x ≤ k + (K - 1) + j))
end
abbrev bigN : Int := 1000000000000000
def cF (h d : Nat → Nat → Int) (f : Int) : Nat → Nat → Int := fun k b => 1000 * h k b - f * d k b
/-- What holds and what drives is not much. -/
structure HdOk (h d : Nat → Nat → Int) (n cols K : Nat) : Prop where
  h0 : ∀ k b, 0 ≤ h k b
  h1 : ∀ k b, h k b ≤ 300000
  d0 : ∀ k b, -100000 ≤ d k b
  d1 : ∀ k b, d k b ≤ 100000
  n0 : 0 < n
  K0 : 1 ≤ K
  few : cols + K ≤ 1000
section
variable {h d : Nat → Nat → Int} {n cols K : Nat} {f g : Int}
theorem cF_bd (ok : HdOk h d n cols K) (f0 : 0 ≤ f) (f1 : f ≤ 10001) (k b : Nat) : -1300100000 ≤ cF h d f k b ∧ cF h d f k b ≤ 1300100000 := by
  have a1 := ok.h0 k b
  have a2 := ok.h1 k b
  have a3 := Int.mul_le_mul_of_nonneg_left (ok.d1 k b) f0
  have a4 := Int.mul_le_mul_of_nonneg_left (ok.d0 k b) f0
  unfold cF
  omega
def lowF (h d : Nat → Nat → Int) (n cols K : Nat) (f : Int) : Option (Nat × List Nat) := lowS (cF h d f) n bigN cols K 0 cols
theorem few_big (ok : HdOk h d n cols K) : ((cols + K : Nat) : Int) * 1300100000 < bigN := by
  have := ok.few
  show ((cols + K : Nat) : Int) * 1300100000 < 1000000000000000
  omega
theorem lowF_iff (ok : HdOk h d n cols K) (f0 : 0 ≤ f) (f1 : f ≤ 10001) : (lowF h d n cols K f).isSome = true ↔ ∃ k l, SurfB n cols K k l ∧ 1 ≤ sumH d k l ∧ 1000 * sumH h k l / sumH d k l < f := by
  unfold lowF
  rw [lowS_iff (B := 1300100000) (fun k b _ => cF_bd ok f0 f1 k b) (by omega) ok.n0 ok.K0 (few_big ok)]
  unfold LowB
  refine exists_congr fun k => exists_congr fun l => and_congr_right fun _ => ?_
  unfold cF
  rw [cost_sums, neg_iff (sumH_nonneg ok.h0 l k) f0]
theorem lowF_none (ok : HdOk h d n cols K) (f0 : 0 ≤ f) (f1 : f ≤ 10001) (hl : lowF h d n cols K f = none) {k : Nat} {l : List Nat} (hs : SurfB n cols K k l) (hd : 1 ≤ sumH d k l) : f ≤ 1000 * sumH h k l / sumH d k l := by
  by_cases hlt : 1000 * sumH h k l / sumH d k l < f
  · have := (lowF_iff ok f0 f1).2 ⟨k, l, hs, hd, hlt⟩
    rw [hl] at this
    cases this
  · omega
theorem lowF_some (ok : HdOk h d n cols K) (f0 : 0 ≤ f) (f1 : f ≤ 10001) {k : Nat} {l : List Nat} (hl : lowF h d n cols K f = some (k, l)) : SurfB n cols K k l ∧ 1 ≤ sumH d k l ∧ 1000 * sumH h k l / sumH d k l < f := by
  obtain ⟨h1, h2⟩ := (lowS_is (B := 1300100000) (fun k b _ => cF_bd ok f0 f1 k b) (by omega) ok.n0 ok.K0 (few_big ok) cols 0 (by omega)).2 k l hl
  unfold cF at h2
  rw [cost_sums, neg_iff (sumH_nonneg ok.h0 l k) f0] at h2
  exact ⟨h1, h2⟩
theorem lowF_mono (ok : HdOk h d n cols K) (f0 : 0 ≤ f) (hg : f ≤ g) (g1 : g ≤ 10001) (hl : (lowF h d n cols K f).isSome = true) : (lowF h d n cols K g).isSome = true := by
  rw [lowF_iff ok f0 (by omega)] at hl
  rw [lowF_iff ok (by omega) g1]
  obtain ⟨k, l, h1, h2, h3⟩ := hl
  exact ⟨k, l, h1, h2, by omega⟩
/-- The least factor for which some surface is lower; 10001: there is none. -/
def worstL (h d : Nat → Nat → Int) (n cols K : Nat) : Nat := firstN (fun f => (lowF h d n cols K f).isSome) 1 10000
def worstR (h d : Nat → Nat → Int) (n cols K : Nat) : Option ((Nat × List Nat) × Int) :=
  if worstL h d n cols K ≤ 10000 then (lowF h d n cols K (worstL h d n cols K)).map fun u => (u, (worstL h d n cols K : Int) - 1)
  else (lowF (fun _ _ => 0) d n cols K 1).map fun u => (u, 10000)
theorem zero_ok (ok : HdOk h d n cols K) : HdOk (fun _ _ => 0) d n cols K := ⟨fun _ _ => Int.le_refl _, fun _ _ => by omega, ok.d0, ok.d1, ok.n0, ok.K0, ok.few⟩
theorem worst_some (ok : HdOk h d n cols K) {k : Nat} {l : List Nat} {v : Int} (hw : worstR h d n cols K = some ((k, l), v)) :
    SurfB n cols K k l ∧ 1 ≤ sumH d k l ∧ factorN (sumH h k l) (sumH d k l) = v ∧ ∀ x m, SurfB n cols K x m → 1 ≤ sumH d x m → v ≤ factorN (sumH h x m) (sumH d x m) := by
  obtain ⟨g1, g2, g3, g4⟩ := firstN_is (p := fun f => (lowF h d n cols K f).isSome) 10000 1
  unfold worstR at hw
  unfold worstL at hw
  obtain ⟨L, hL⟩ : ∃ L, L = firstN (fun f => (lowF h d n cols K f).isSome) 1 10000 := ⟨_, rfl⟩
  rw [← hL] at hw g1 g2 g3 g4
  by_cases hle : L ≤ 10000
  · rw [if_pos hle, Option.map_eq_some_iff] at hw
    obtain ⟨u, hu, he⟩ := hw
    simp only [Prod.mk.injEq] at he
    obtain ⟨rfl, rfl⟩ := he
    obtain ⟨a1, a2, a3⟩ := lowF_some ok (by omega) (by omega) hu
    have low : ∀ x m, SurfB n cols K x m → 1 ≤ sumH d x m → (L : Int) - 1 ≤ 1000 * sumH h x m / sumH d x m := by
      intro x m hs hd
      by_cases h1 : L = 1
      · have := Int.ediv_nonneg (a := 1000 * sumH h x m) (b := sumH d x m) (by have := sumH_nonneg ok.h0 m x; omega) (by omega)
        omega
      · have h2 := g3 (L - 1) (by omega) (by omega)
        have h3 : lowF h d n cols K ((L - 1 : Nat) : Int) = none := by
          cases hq : lowF h d n cols K ((L - 1 : Nat) : Int) with
          | none => rfl
          | some q => rw [hq] at h2; cases h2
        have h4 := lowF_none ok (by omega) (by omega) h3 hs hd
        omega
    refine ⟨a1, a2, ?_, fun x m hs hd => ?_⟩
    · have := low k l a1 a2
      unfold factorN mnI
      split <;> omega
    · have := low x m hs hd
      unfold factorN mnI
      split <;> omega
  · rw [if_neg hle, Option.map_eq_some_iff] at hw
    obtain ⟨u, hu, he⟩ := hw
    simp only [Prod.mk.injEq] at he
    obtain ⟨rfl, rfl⟩ := he
    obtain ⟨a1, a2, a3⟩ := lowF_some (zero_ok ok) (by omega) (by omega) hu
    have low : ∀ x m, SurfB n cols K x m → 1 ≤ sumH d x m → factorN (sumH h x m) (sumH d x m) = 10000 := by
      intro x m hs hd
      have h2 := g3 10000 (by omega) (by omega)
      have h3 : lowF h d n cols K ((10000 : Nat) : Int) = none := by
        cases hq : lowF h d n cols K ((10000 : Nat) : Int) with
        | none => rfl
        | some q => rw [hq] at h2; cases h2
      have h4 := lowF_none ok (by omega) (by omega) h3 hs hd
      unfold factorN mnI
      split <;> omega
    exact ⟨a1, a2, low k l a1 a2, fun x m hs hd => by rw [low x m hs hd]; exact Int.le_refl _⟩
theorem worst_none (ok : HdOk h d n cols K) (hw : worstR h d n cols K = none) : ∀ x m, SurfB n cols K x m → ¬ (1 ≤ sumH d x m) := by
  obtain ⟨g1, g2, g3, g4⟩ := firstN_is (p := fun f => (lowF h d n cols K f).isSome) 10000 1
  intro x m hs hd
  unfold worstR at hw
  unfold worstL at hw
  obtain ⟨L, hL⟩ : ∃ L, L = firstN (fun f => (lowF h d n cols K f).isSome) 1 10000 := ⟨_, rfl⟩
  rw [← hL] at hw g1 g2 g3 g4
  by_cases hle : L ≤ 10000
  · rw [if_pos hle, Option.map_eq_none_iff] at hw
    have := g4 (by omega)
    rw [hw] at this
    cases this
  · rw [if_neg hle, Option.map_eq_none_iff] at hw
    have h0 : ∀ (l : List Nat) (k : Nat), sumH (fun _ _ => (0 : Int)) k l = 0 := by
      intro l
      induction l with
      | nil => intro k; rfl
      | cons b t ih => intro k; simp only [sumH]; have := ih (k + 1); omega
    have h4 := lowF_none (zero_ok ok) (by omega) (by omega) hw hs hd
    rw [h0] at h4
    simp at h4
/-- Something is lower than a factor just if the least one is. -/
theorem low_worst (ok : HdOk h d n cols K) (f0 : 0 ≤ f) (f1 : f ≤ 10000) : (lowF h d n cols K f).isSome = true ↔ ∃ u v, worstR h d n cols K = some (u, v) ∧ v < f := by
  constructor
  · intro hl
    obtain ⟨k, l, h1, h2, h3⟩ := (lowF_iff ok f0 (by omega)).1 hl
    cases hw : worstR h d n cols K with
    | none => exact absurd h2 (worst_none ok hw k l h1)
    | some z =>
      obtain ⟨⟨k', l'⟩, v⟩ := z
      refine ⟨_, _, rfl, ?_⟩
      have h4 := (worst_some ok hw).2.2.2 k l h1 h2
      have h5 := (factor_lt f1).2 h3
      omega
  · rintro ⟨⟨k, l⟩, v, hw, hv⟩
    obtain ⟨h1, h2, h3, _⟩ := worst_some ok hw
    rw [lowF_iff ok f0 (by omega)]
    refine ⟨k, l, h1, h2, ?_⟩
    rw [← factor_lt f1, h3]
    exact hv
end
section
variable {h d h' d' : Nat → Nat → Int} {n cols K n' cols' K' : Nat} {f g : Int}
theorem sumH_le (hh : ∀ k b, h k b ≤ h' k b) : ∀ (l : List Nat) (k : Nat), sumH h k l ≤ sumH h' k l
  | [], _ => Int.le_refl _
  | b :: t, k => by
    have := hh k b
    have := sumH_le hh t (k + 1)
    simp only [sumH]
    omega
theorem factor_le {H D H' D' : Int} (h0 : 0 ≤ H') (h1 : H' ≤ H) (hd : 1 ≤ D) (h2 : D ≤ D') : factorN H' D' ≤ factorN H D := by
  have e1 : 1000 * H' / D' ≤ 1000 * H / D := by
    rw [Int.le_ediv_iff_mul_le (by omega)]
    have a1 := Int.ediv_mul_le (1000 * H') (b := D') (by omega)
    have a2 : 1000 * H' / D' * D ≤ 1000 * H' / D' * D' := Int.mul_le_mul_of_nonneg_left h2 (Int.ediv_nonneg (by omega) (by omega))
    omega
  unfold factorN mnI
  split <;> split <;> omega
theorem low_weak (ok : HdOk h d n cols K) (ok' : HdOk h' d n cols K) (hh : ∀ k b, h' k b ≤ h k b) (f0 : 0 ≤ f) (f1 : f ≤ 10001) (hl : (lowF h d n cols K f).isSome = true) : (lowF h' d n cols K f).isSome = true := by
  rw [lowF_iff ok f0 f1] at hl
  rw [lowF_iff ok' f0 f1]
  obtain ⟨k, l, a1, a2, a3⟩ := hl
  refine ⟨k, l, a1, a2, ?_⟩
  have h1 := sumH_le hh l k
  rw [Int.ediv_lt_iff_lt_mul (by omega)] at a3 ⊢
  omega
/-- How much more water a slope bears. -/
def marginN (hw : Nat → Nat → Nat → Int) (d : Nat → Nat → Int) (n cols K : Nat) (f : Int) : Nat := firstN (fun m => (lowF (hw (m + 1)) d n cols K f).isSome) 0 100000
theorem margin_unique {hw : Nat → Nat → Nat → Int} (ok : ∀ m, HdOk (hw m) d n cols K) (ha : ∀ m k b, hw (m + 1) k b ≤ hw m k b) (f0 : 0 ≤ f) (f1 : f ≤ 10001) {m : Nat} (h1 : m ≤ 100000) (h2 : lowF (hw m) d n cols K f = none) (h3 : m < 100000 → (lowF (hw (m + 1)) d n cols K f).isSome = true) : m = marginN hw d n cols K f := by
  have up : ∀ i j, (lowF (hw j) d n cols K f).isSome = true → (lowF (hw (j + i)) d n cols K f).isSome = true := by
    intro i
    induction i with
    | zero => exact fun j h => h
    | succ i ih => exact fun j h => low_weak (ok (j + i)) (ok (j + i + 1)) (ha (j + i)) f0 f1 (ih j h)
  refine firstN_unique (Nat.zero_le _) (by omega) (fun j _ hj => ?_) (fun h => h3 (by omega))
  cases hq : (lowF (hw (j + 1)) d n cols K f).isSome with
  | false => rfl
  | true =>
    have := up (m - (j + 1)) (j + 1) hq
    rw [show j + 1 + (m - (j + 1)) = m by omega, h2] at this
    cases this
end
theorem mn_le (a b : Int) : mnI a b ≤ a ∧ mnI a b ≤ b := by unfold mnI; split <;> omega
theorem mn_or (a b : Int) : mnI a b = a ∨ mnI a b = b := by unfold mnI; split <;> simp
def behindN (big : Int) (n : Nat) (row : Nat → Int) (b : Nat) : Int := minL big ((nearL n b).map row)
/-- Is a number of a table right? -/
def cellT (c : Nat → Nat → Int) (big : Int) (n K : Nat) (t : Nat → Nat → Nat → Int) (r k b : Nat) : Prop :=
  (r = 0 → t r k b ≤ c k b) ∧ (0 < r → 0 < k → t r k b ≤ c k b + behindN big n (t (r - 1) (k - 1)) b) ∧ (r = K - 1 → 0 < k → t r k b ≤ c k b + behindN big n (t r (k - 1)) b) ∧ (r = K - 1 → K - 1 ≤ k → 0 ≤ t r k b)
def provesT (c : Nat → Nat → Int) (big : Int) (n cols K : Nat) (t : Nat → Nat → Nat → Int) : Prop := ∀ r k b, r < K → k < cols → b < n → cellT c big n K t r k b
theorem behind_le {big : Int} {n : Nat} {row : Nat → Int} {b x : Nat} (hx : x < n) (hb : b < n) (h1 : b ≤ x + 1) (h2 : x ≤ b + 1) : behindN big n row x ≤ row b :=
  (minL_le ((nearL n x).map row) big).2 _ (List.mem_map.2 ⟨b, (mem_near hx).2 ⟨hb, h2, h1⟩, rfl⟩)
section
variable {c : Nat → Nat → Int} {n cols K : Nat} {big B far : Int} {t : Nat → Nat → Nat → Int}
theorem table_way (hp : provesT c big n cols K t) (hK : 1 ≤ K) : ∀ (l : List Nat) (r k b : Nat) (S : Int), r < K → wayB n (b :: l) → k + l.length < cols → t r k b ≤ S →
    ∃ x, x < n ∧ t (min (r + l.length) (K - 1)) (k + l.length) x ≤ S + costP c (k + 1) l
  | [], r, k, b, S, hr, hw, hk, hS => ⟨b, hw.1, by simp only [List.length_nil, costP, Nat.add_zero, Int.add_zero]; rw [Nat.min_eq_left (by omega)]; exact hS⟩
  | x :: l, r, k, b, S, hr, hw, hk, hS => by
    obtain ⟨hb, hx, hw2⟩ := hw
    have hn := hx x rfl
    simp only [List.length_cons] at hk ⊢
    have hstep : t (min (r + 1) (K - 1)) (k + 1) x ≤ S + c (k + 1) x := by
      by_cases hl : r < K - 1
      · rw [Nat.min_eq_left (by omega)]
        have h1 := (hp (r + 1) (k + 1) x (by omega) (by omega) hw2.1).2.1 (by omega) (by omega)
        rw [Nat.add_sub_cancel, Nat.add_sub_cancel] at h1
        have h2 := behind_le (big := big) (row := t r k) hw2.1 hb hn.1 hn.2
        omega
      · obtain rfl : r = K - 1 := by omega
        rw [Nat.min_eq_right (by omega)]
        have h1 := (hp (K - 1) (k + 1) x (by omega) (by omega) hw2.1).2.2.1 rfl (by omega)
        rw [Nat.add_sub_cancel] at h1
        have h2 := behind_le (big := big) (row := t (K - 1) k) hw2.1 hb hn.1 hn.2
        omega
    obtain ⟨y, hy, h3⟩ := table_way hp hK l (min (r + 1) (K - 1)) (k + 1) x (S + c (k + 1) x) (by omega) hw2 (by omega) hstep
    refine ⟨y, hy, ?_⟩
    rw [show min (min (r + 1) (K - 1) + l.length) (K - 1) = min (r + (l.length + 1)) (K - 1) by omega, show k + 1 + l.length = k + (l.length + 1) by omega] at h3
    simp only [costP]
    omega
/-- A table proves that no surface costs less than nothing. -/
theorem table_low (hp : provesT c big n cols K t) (hK : 1 ≤ K) {k : Nat} {l : List Nat} (hs : SurfB n cols K k l) : 0 ≤ costP c k l := by
  obtain ⟨h1, h2, h3⟩ := hs
  cases l with
  | nil => simp at h1; omega
  | cons b l =>
    simp only [List.length_cons] at h1 h2
    have h4 := (hp 0 k b (by omega) (by omega) h3.1).1 rfl
    obtain ⟨x, hx, h5⟩ := table_way hp hK l 0 k b (c k b) (by omega) h3 (by omega) h4
    rw [show min (0 + l.length) (K - 1) = K - 1 by omega] at h5
    have h6 := (hp (K - 1) (k + l.length) x (by omega) (by omega) hx).2.2.2 rfl (by omega)
    simp only [costP]
    omega
theorem cost_snoc : ∀ (l : List Nat) (k x : Nat), costP c k (l ++ [x]) = costP c k l + c (k + l.length) x
  | [], k, x => by simp [costP]
  | b :: l, k, x => by
    have ih := cost_snoc l (k + 1) x
    simp only [List.cons_append, costP, List.length_cons]
    rw [ih, show k + 1 + l.length = k + (l.length + 1) by omega]
    omega
theorem way_snoc : ∀ (l : List Nat) (x : Nat), x < n → wayB n l → (∀ y, l.getLast? = some y → y ≤ x + 1 ∧ x ≤ y + 1) → wayB n (l ++ [x])
  | [], x, hx, _, _ => ⟨hx, fun y hy => by simp at hy, trivial⟩
  | [b], x, hx, hw, hl => by
    have := hl b rfl
    exact ⟨hw.1, fun y hy => by simp at hy; omega, hx, fun y hy => by simp at hy, trivial⟩
  | b :: b' :: l, x, hx, hw, hl => by
    refine ⟨hw.1, fun y hy => hw.2.1 y (by simpa using hy), ?_⟩
    exact way_snoc (b' :: l) x hx hw.2.2 fun y hy => hl y (by rw [List.getLast?_cons_cons]; exact hy)
/-- The rows of the program's table. -/
def rowT (c : Nat → Nat → Int) (big far : Int) (n K : Nat) (prev : Nat → Nat → Int) (r : Nat) : Nat → Nat → Int
  | 0, b => c 0 b + (if r = 0 then 0 else far)
  | k + 1, b => c (k + 1) b + (if r = K - 1 then mnI (if r = 0 then 0 else behindN big n (prev k) b) (behindN big n (rowT c big far n K prev r k) b) else (if r = 0 then 0 else behindN big n (prev k) b))
def tabT (c : Nat → Nat → Int) (big far : Int) (n K : Nat) : Nat → Nat → Nat → Int
  | 0 => rowT c big far n K (fun _ _ => 0) 0
  | r + 1 => rowT c big far n K (tabT c big far n K r) (r + 1)
/-- A number is what some way costs that ends there, or a great one. -/
def RealT (c : Nat → Nat → Int) (B far : Int) (n K r k b : Nat) (v : Int) : Prop :=
  (∃ k0 l, wayB n l ∧ k0 + l.length = k + 1 ∧ l.getLast? = some b ∧ (r < K - 1 → l.length = r + 1) ∧ (r = K - 1 → K ≤ l.length) ∧ costP c k0 l = v) ∨ (far - ((k + 1 : Nat) : Int) * B ≤ v ∧ v ≤ far + ((k + 1 : Nat) : Int) * B)
theorem behind_mem {row : Nat → Int} {b : Nat} (hb : b < n) (hr : row b ≤ big) : ∃ x, x < n ∧ b ≤ x + 1 ∧ x ≤ b + 1 ∧ behindN big n row b = row x := by
  unfold behindN
  rcases minL_mem ((nearL n b).map row) big with h | h
  · have h2 := (minL_le ((nearL n b).map row) big).2 _ (List.mem_map.2 ⟨b, (mem_near hb).2 (by omega), rfl⟩)
    exact ⟨b, hb, by omega, by omega, by omega⟩
  · obtain ⟨x, hx, he⟩ := List.mem_map.1 h
    obtain ⟨h1, h2, h3⟩ := (mem_near hb).1 hx
    exact ⟨x, h1, h2, h3, he.symm⟩
theorem cost_abs (hc : ∀ k b, -B ≤ c k b ∧ c k b ≤ B) : ∀ (l : List Nat) (k : Nat), -((l.length : Nat) : Int) * B ≤ costP c k l ∧ costP c k l ≤ ((l.length : Nat) : Int) * B
  | [], k => by simp [costP]
  | b :: l, k => by
    have h1 := hc k b
    have h2 := cost_abs hc l (k + 1)
    have e1 : ((l.length + 1 : Nat) : Int) * B = l.length * B + B := by rw [Int.natCast_add, Int.add_mul]; simp
    simp only [List.length_cons, costP]
    rw [Int.neg_mul] at h2 ⊢
    omega
theorem real_bd (hc : ∀ k b, -B ≤ c k b ∧ c k b ≤ B) (h0 : 0 ≤ B) {r k b : Nat} {v : Int} (hf : 0 ≤ far) (hk : ((k + 1 : Nat) : Int) * B + far ≤ big) (h : RealT c B far n K r k b v) : -big ≤ v ∧ v ≤ big := by
  rcases h with ⟨k0, l, _, h2, _, _, _, h3⟩ | h
  · have h4 := cost_abs hc l k0
    have h5 : (l.length : Int) * B ≤ ((k + 1 : Nat) : Int) * B := Int.mul_le_mul_of_nonneg_right (by omega) h0
    rw [Int.neg_mul] at h4
    omega
  · have : 0 ≤ ((k + 1 : Nat) : Int) * B := Int.mul_nonneg (by omega) h0
    omega
theorem real_step (hc : ∀ k b, -B ≤ c k b ∧ c k b ≤ B) {r r' k b x : Nat} {v : Int} (hb : b < n) (h1 : b ≤ x + 1) (h2 : x ≤ b + 1) (hr : (r' + 1 = r ∧ r < K) ∨ (r' = r ∧ r = K - 1)) (h : RealT c B far n K r' k x v) : RealT c B far n K r (k + 1) b (c (k + 1) b + v) := by
  rcases h with ⟨k0, l, g1, g2, g3, g4, g5, g6⟩ | ⟨g1, g2⟩
  · refine .inl ⟨k0, l ++ [b], way_snoc l b hb g1 fun y hy => ?_, by rw [List.length_append, List.length_singleton]; omega, by simp, fun hr1 => ?_, fun hr1 => ?_, ?_⟩
    · rw [g3] at hy
      injection hy with hy
      omega
    · rw [List.length_append, List.length_singleton]
      rcases hr with hr | hr
      · have := g4 (by omega); omega
      · omega
    · rw [List.length_append, List.length_singleton]
      rcases hr with hr | hr
      · have := g4 (by omega); omega
      · have := g5 (by omega); omega
    · rw [cost_snoc, g6, g2]
      omega
  · have hcb := hc (k + 1) b
    have e1 : ((k + 1 + 1 : Nat) : Int) * B = ((k + 1 : Nat) : Int) * B + B := by rw [Int.natCast_add (k + 1), Int.add_mul]; simp
    refine .inr ?_
    rw [e1]
    omega
theorem rowT_real (hc : ∀ k b, -B ≤ c k b ∧ c k b ≤ B) (h0 : 0 ≤ B) (hf : 0 ≤ far) (hK : 1 ≤ K) {prev : Nat → Nat → Int} {r cols : Nat} (hr : r < K) (hbig : ((cols + 1 : Nat) : Int) * B + far ≤ big) (hp : 0 < r → ∀ k b, k < cols → b < n → RealT c B far n K (r - 1) k b (prev k b)) : ∀ k, k < cols → ∀ b, b < n → RealT c B far n K r k b (rowT c big far n K prev r k b)
  | 0, hk, b, hb => by
    unfold rowT
    by_cases h : r = 0
    · subst h
      rw [if_pos rfl]
      exact .inl ⟨0, [b], ⟨hb, fun x hx => by simp at hx, trivial⟩, rfl, rfl, fun _ => rfl, fun h => by simp; omega, by simp [costP]⟩
    · rw [if_neg h]
      have := hc 0 b
      refine .inr ?_
      simp
      omega
  | k + 1, hk, b, hb => by
    have ih := rowT_real hc h0 hf hK hr hbig hp k (by omega)
    have hmul : ∀ j, j ≤ cols → ((j + 1 : Nat) : Int) * B ≤ ((cols + 1 : Nat) : Int) * B := fun j hj => Int.mul_le_mul_of_nonneg_right (by omega) h0
    have hk1 := hmul k (by omega)
    unfold rowT
    have first : RealT c B far n K r (k + 1) b (c (k + 1) b + if r = 0 then 0 else behindN big n (prev k) b) := by
      by_cases h : r = 0
      · subst h
        rw [if_pos rfl]
        exact .inl ⟨k + 1, [b], ⟨hb, fun x hx => by simp at hx, trivial⟩, rfl, rfl, fun _ => rfl, fun h => by simp; omega, by simp [costP]⟩
      · rw [if_neg h]
        have hpb := fun x hx => hp (by omega) k x (by omega) hx
        obtain ⟨x, x1, x2, x3, x4⟩ := behind_mem (big := big) (row := prev k) hb (real_bd (big := big) hc h0 hf (by omega) (hpb b hb)).2
        rw [x4]
        exact real_step hc hb x2 x3 (.inl ⟨by omega, hr⟩) (hpb x x1)
    by_cases hl : r = K - 1
    · rw [if_pos hl]
      rcases mn_or (if r = 0 then 0 else behindN big n (prev k) b) (behindN big n (rowT c big far n K prev r k) b) with e | e <;> rw [e]
      · exact first
      · obtain ⟨x, x1, x2, x3, x4⟩ := behind_mem (big := big) (row := rowT c big far n K prev r k) hb (real_bd (big := big) hc h0 hf (by omega) (ih b hb)).2
        rw [x4]
        exact real_step hc hb x2 x3 (.inr ⟨rfl, hl⟩) (ih x x1)
    · rw [if_neg hl]
      exact first
theorem tabT_real (hc : ∀ k b, -B ≤ c k b ∧ c k b ≤ B) (h0 : 0 ≤ B) (hf : 0 ≤ far) (hK : 1 ≤ K) (hbig : ((cols + 1 : Nat) : Int) * B + far ≤ big) : ∀ r, r < K → ∀ k, k < cols → ∀ b, b < n → RealT c B far n K r k b (tabT c big far n K r k b)
  | 0, hr => rowT_real hc h0 hf hK hr hbig fun h => absurd h (by omega)
  | r + 1, hr => rowT_real hc h0 hf hK hr hbig fun _ k b hk hb => tabT_real hc h0 hf hK hbig r (by omega) k hk b hb
theorem tabT_at {r : Nat} : ∃ prev, tabT c big far n K r = rowT c big far n K prev r ∧ (0 < r → prev = tabT c big far n K (r - 1)) := by
  cases r with
  | zero => exact ⟨_, rfl, fun h => absurd h (by omega)⟩
  | succ r => exact ⟨_, rfl, fun _ => rfl⟩
/-- The program's table proves that no surface costs less than nothing, if none does. -/
theorem tabT_proves (hc : ∀ k b, -B ≤ c k b ∧ c k b ≤ B) (h0 : 0 ≤ B) (hf : 0 ≤ far) (hK : 1 ≤ K) (hbig : ((cols + 1 : Nat) : Int) * B + far ≤ big) (hfar : ((cols + 1 : Nat) : Int) * B ≤ far) (hn : ∀ k l, SurfB n cols K k l → 0 ≤ costP c k l) : provesT c big n cols K (tabT c big far n K) := by
  intro r k b hr hk hb
  obtain ⟨prev, hrow, hprev⟩ := tabT_at (c := c) (big := big) (far := far) (n := n) (K := K) (r := r)
  refine ⟨fun h => ?_, fun h1 h2 => ?_, fun h1 h2 => ?_, fun h1 h2 => ?_⟩
  · rw [hrow]
    subst h
    cases k with
    | zero => unfold rowT; rw [if_pos rfl]; omega
    | succ k =>
      unfold rowT
      rw [if_pos rfl]
      have := (mn_le 0 (behindN big n (rowT c big far n K prev 0 k) b)).1
      split <;> omega
  · rw [hrow]
    cases k with
    | zero => omega
    | succ k =>
      unfold rowT
      rw [if_neg (show ¬ r = 0 by omega), hprev h1, Nat.add_sub_cancel]
      have := (mn_le (behindN big n (tabT c big far n K (r - 1) k) b) (behindN big n (rowT c big far n K (tabT c big far n K (r - 1)) r k) b)).1
      split <;> omega
  · rw [hrow]
    cases k with
    | zero => omega
    | succ k =>
      rw [Nat.add_sub_cancel]
      have e : rowT c big far n K prev r (k + 1) b = c (k + 1) b + (if r = K - 1 then mnI (if r = 0 then 0 else behindN big n (prev k) b) (behindN big n (rowT c big far n K prev r k) b) else (if r = 0 then 0 else behindN big n (prev k) b)) := rfl
      rw [e, if_pos h1]
      have := (mn_le (if r = 0 then 0 else behindN big n (prev k) b) (behindN big n (rowT c big far n K prev r k) b)).2
      omega
  · rcases tabT_real hc h0 hf hK hbig r hr k hk b hb with ⟨k0, l, g1, g2, g3, g4, g5, g6⟩ | g
    · rw [← g6]
      exact hn k0 l ⟨g5 h1, by omega, g1⟩
    · have : ((k + 1 : Nat) : Int) * B ≤ ((cols + 1 : Nat) : Int) * B := Int.mul_le_mul_of_nonneg_right (by omega) h0
      omega
end
end

section
open Go.RowKit
structure Rg where
  lo : Int
  hi : Int
structure Bd where
  drive : Int
  normal : Int
  fr : Rg
  co : Rg
  wa : Rg
/-- What is true of a bed. -/
structure Rl where
  fr : Int
  co : Int
  wa : Int
/-- A column in memory. -/
structure Cl where
  beds : List Bd
  a : Option Addr
  cp : Nat
/-- A slope, as data. -/
structure Sd where
  cols : List (List Bd)
  least : Int
/-- A slope, in memory. -/
structure Sm where
  cs : List Cl
  a : Option Addr
  c : Nat
  least : Int
def Sm.sd (s : Sm) : Sd := ⟨s.cs.map (·.beds), s.least⟩
abbrev rgL (r : Rg) : List Value := [vi r.lo, vi r.hi]
abbrev rgV (r : Rg) : Value := .agg #[vi r.lo, vi r.hi]
abbrev bdL (b : Bd) : List Value := [vi b.drive, vi b.normal, vi b.fr.lo, vi b.fr.hi, vi b.co.lo, vi b.co.hi, vi b.wa.lo, vi b.wa.hi]
abbrev bdC (b : Bd) : Array Value := #[vi b.drive, vi b.normal, vi b.fr.lo, vi b.fr.hi, vi b.co.lo, vi b.co.hi, vi b.wa.lo, vi b.wa.hi]
abbrev bdV (b : Bd) : Value := .agg (bdC b)
abbrev rlL (x : Rl) : List Value := [vi x.fr, vi x.co, vi x.wa]
abbrev rlC (x : Rl) : Array Value := #[vi x.fr, vi x.co, vi x.wa]
abbrev rlV (x : Rl) : Value := .agg (rlC x)
abbrev clL (x : Cl) : List Value := [.slice x.a x.beds.length x.cp]
abbrev clV (x : Cl) : Value := .slice x.a x.beds.length x.cp
abbrev smC (s : Sm) : Array Value := #[.slice s.a s.cs.length s.c, vi s.least]
abbrev smV (s : Sm) : Value := .agg (smC s)
/-- A slope lies in memory. -/
structure SmOk (s : Sm) (W : World) : Prop where
  cs : Row clL 1 W W.heap.size s.a s.cs
  bd : ∀ x ∈ s.cs, Row bdL 8 W W.heap.size x.a x.beds
theorem SmOk.next {s : Sm} {W W' : World} (h : SmOk s W) (hb : newer W W') : SmOk s W' :=
  ⟨(h.cs.below hb).more hb.size, fun x hx => ((h.bd x hx).below hb).more hb.size⟩
theorem row8 {w : World} {B : Nat} {A : Option Addr} {l : List Bd} (h : Row bdL 8 w B A l) {k : Nat} {c : Bd} (hk : l[k]? = some c) :
    ∃ b off, A = some ⟨b, off, none⟩ ∧ b < B ∧ w.cell? ⟨b, off + k * 8, none⟩ = some (.int .i64 c.drive) ∧ w.cell? ⟨b, off + k * 8 + 1, none⟩ = some (.int .i64 c.normal) ∧ w.cell? ⟨b, off + k * 8 + 2, none⟩ = some (.int .i64 c.fr.lo) ∧ w.cell? ⟨b, off + k * 8 + 3, none⟩ = some (.int .i64 c.fr.hi) ∧
      w.cell? ⟨b, off + k * 8 + 4, none⟩ = some (.int .i64 c.co.lo) ∧ w.cell? ⟨b, off + k * 8 + 5, none⟩ = some (.int .i64 c.co.hi) ∧ w.cell? ⟨b, off + k * 8 + 6, none⟩ = some (.int .i64 c.wa.lo) ∧ w.cell? ⟨b, off + k * 8 + 7, none⟩ = some (.int .i64 c.wa.hi) := by
  obtain ⟨b, off, e, hb, hc⟩ := h (ne_nil_of_get hk)
  exact ⟨b, off, e, hb, hc k c hk 0 _ rfl, hc k c hk 1 _ rfl, hc k c hk 2 _ rfl, hc k c hk 3 _ rfl, hc k c hk 4 _ rfl, hc k c hk 5 _ rfl, hc k c hk 6 _ rfl, hc k c hk 7 _ rfl⟩
theorem rowC {w : World} {B : Nat} {A : Option Addr} {l : List Cl} (h : Row clL 1 w B A l) {k : Nat} {c : Cl} (hk : l[k]? = some c) :
    ∃ b off, A = some ⟨b, off, none⟩ ∧ b < B ∧ w.cell? ⟨b, off + k, none⟩ = some (.slice c.a c.beds.length c.cp) := by
  obtain ⟨b, off, e, hb, hc⟩ := h (ne_nil_of_get hk)
  exact ⟨b, off, e, hb, by simpa using hc k c hk 0 _ rfl⟩
def rgU (r : Rg) (most : Int) : Bool := decide (0 ≤ r.lo) && decide (r.lo ≤ r.hi) && decide (r.hi ≤ most)
def bdB (b : Bd) : Bool := inB b.drive (-100000) 100000 && inB b.normal 0 100000 && rgU b.fr 2000 && rgU b.co 100000 && rgU b.wa 100000
/-- How many beds the columns have. -/
def Sd.n (s : Sd) : Nat := (s.cols.headD []).length
def Sd.K (s : Sd) : Nat := s.least.toNat
def slopeB (s : Sd) : Bool := inB s.cols.length 1 12 && inB s.n 1 5 && inB s.least 1 4 && s.cols.all fun l => decide (l.length = s.n) && l.all bdB
def holdsN (b : Bd) (x : Rl) : Int := mxI 0 (b.normal - x.wa) * x.fr / 1000 + x.co
/-- The truths in which a bed holds least, or most. -/
def endR (hi : Bool) (b : Bd) : Rl := if hi then ⟨b.fr.hi, b.co.hi, b.wa.lo⟩ else ⟨b.fr.lo, b.co.lo, b.wa.hi⟩
def bedAt (cols : List (List Bd)) (k b : Nat) : Option Bd := match cols[k]? with
  | some l => l[b]?
  | none => none
def hAt (hi : Bool) (s : Sd) (k b : Nat) : Int := match bedAt s.cols k b with
  | some x => holdsN x (endR hi x)
  | none => 0
def dAt (s : Sd) (k b : Nat) : Int := match bedAt s.cols k b with
  | some x => x.drive
  | none => 0
structure SdOk (s : Sd) : Prop where
  cols : 1 ≤ s.cols.length ∧ s.cols.length ≤ 12
  beds : 1 ≤ s.n ∧ s.n ≤ 5
  least : 1 ≤ s.least ∧ s.least ≤ 4
  len : ∀ l ∈ s.cols, l.length = s.n
  bd : ∀ l ∈ s.cols, ∀ b ∈ l, bdB b = true
theorem sdOk_iff {s : Sd} : slopeB s = true ↔ SdOk s := by
  unfold slopeB
  simp only [inB, Bool.and_eq_true, decide_eq_true_eq, List.all_eq_true]
  constructor
  · rintro ⟨⟨⟨h1, h2⟩, h3⟩, h4⟩
    exact ⟨by omega, by omega, h3, fun l hl => (h4 l hl).1, fun l hl b hb => (h4 l hl).2 b hb⟩
  · rintro ⟨h1, h2, h3, h4, h5⟩
    exact ⟨⟨⟨by omega, by omega⟩, h3⟩, fun l hl => ⟨h4 l hl, fun b hb => h5 l hl b hb⟩⟩
theorem bdB_parts {b : Bd} (h : bdB b = true) : (-100000 ≤ b.drive ∧ b.drive ≤ 100000) ∧ (0 ≤ b.normal ∧ b.normal ≤ 100000) ∧ (0 ≤ b.fr.lo ∧ b.fr.lo ≤ b.fr.hi ∧ b.fr.hi ≤ 2000) ∧ (0 ≤ b.co.lo ∧ b.co.lo ≤ b.co.hi ∧ b.co.hi ≤ 100000) ∧ (0 ≤ b.wa.lo ∧ b.wa.lo ≤ b.wa.hi ∧ b.wa.hi ≤ 100000) := by
  simp only [bdB, rgU, inB, Bool.and_eq_true, decide_eq_true_eq] at h
  omega
theorem holds_bd {b : Bd} {x : Rl} (hn : 0 ≤ b.normal ∧ b.normal ≤ 100000) (h1 : 0 ≤ x.fr ∧ x.fr ≤ 2000) (h2 : 0 ≤ x.co ∧ x.co ≤ 100000) (h3 : 0 ≤ x.wa) : 0 ≤ mxI 0 (b.normal - x.wa) * x.fr ∧ mxI 0 (b.normal - x.wa) * x.fr ≤ 200000000 ∧ 0 ≤ holdsN b x ∧ holdsN b x ≤ 300000 := by
  have hm : 0 ≤ mxI 0 (b.normal - x.wa) ∧ mxI 0 (b.normal - x.wa) ≤ 100000 := by unfold mxI; split <;> omega
  have h4 := mul_bd hm.1 hm.2 h1.1 h1.2
  unfold holdsN
  omega
theorem end_bd {b : Bd} (h : bdB b = true) (hi : Bool) : 0 ≤ holdsN b (endR hi b) ∧ holdsN b (endR hi b) ≤ 300000 := by
  obtain ⟨_, h2, h3, h4, h5⟩ := bdB_parts h
  have := holds_bd (b := b) (x := endR hi b) h2 (by cases hi <;> simp [endR] <;> omega) (by cases hi <;> simp [endR] <;> omega) (by cases hi <;> simp [endR] <;> omega)
  exact this.2.2
theorem bedAt_mem {cols : List (List Bd)} {k b : Nat} {x : Bd} (h : bedAt cols k b = some x) : ∃ l ∈ cols, cols[k]? = some l ∧ l[b]? = some x ∧ x ∈ l := by
  unfold bedAt at h
  split at h
  · rename_i l hl
    exact ⟨l, List.mem_of_getElem? hl, hl, h, List.mem_of_getElem? h⟩
  · cases h
theorem hd_ok {s : Sd} (h : SdOk s) (hi : Bool) : HdOk (hAt hi s) (dAt s) s.n s.cols.length s.K where
  h0 k b := by
    unfold hAt
    split
    · rename_i x hx
      obtain ⟨l, hl, _, _, hb⟩ := bedAt_mem hx
      exact (end_bd (h.bd l hl x hb) hi).1
    · exact Int.le_refl _
  h1 k b := by
    unfold hAt
    split
    · rename_i x hx
      obtain ⟨l, hl, _, _, hb⟩ := bedAt_mem hx
      exact (end_bd (h.bd l hl x hb) hi).2
    · omega
  d0 k b := by
    unfold dAt
    split
    · rename_i x hx
      obtain ⟨l, hl, _, _, hb⟩ := bedAt_mem hx
      exact (bdB_parts (h.bd l hl x hb)).1.1
    · omega
  d1 k b := by
    unfold dAt
    split
    · rename_i x hx
      obtain ⟨l, hl, _, _, hb⟩ := bedAt_mem hx
      exact (bdB_parts (h.bd l hl x hb)).1.2
    · omega
  n0 := h.beds.1
  K0 := by have := h.least; unfold Sd.K; omega
  few := by have := h.least; have := h.cols; unfold Sd.K; omega
/-- Is something true of a bed? -/
def fitB (b : Bd) (x : Rl) : Bool := inB x.fr b.fr.lo b.fr.hi && inB x.co b.co.lo b.co.hi && inB x.wa b.wa.lo b.wa.hi
theorem div_mono {a b : Int} (h : a ≤ b) : a / 1000 ≤ b / 1000 := by omega
theorem holds_mono {b : Bd} {x y : Rl} (h0 : 0 ≤ x.fr) (h1 : x.fr ≤ y.fr) (h2 : x.co ≤ y.co) (h3 : y.wa ≤ x.wa) : holdsN b x ≤ holdsN b y := by
  have hm : 0 ≤ mxI 0 (b.normal - x.wa) ∧ mxI 0 (b.normal - x.wa) ≤ mxI 0 (b.normal - y.wa) := by unfold mxI; split <;> split <;> omega
  have e1 : mxI 0 (b.normal - x.wa) * x.fr ≤ mxI 0 (b.normal - y.wa) * y.fr := Int.le_trans (Int.mul_le_mul_of_nonneg_right hm.2 h0) (Int.mul_le_mul_of_nonneg_left h1 (by omega))
  have := div_mono e1
  unfold holdsN
  omega
theorem fit_mono {b : Bd} {x : Rl} (hb : bdB b = true) (hx : fitB b x = true) : holdsN b (endR false b) ≤ holdsN b x ∧ holdsN b x ≤ holdsN b (endR true b) := by
  obtain ⟨_, _, h3, h4, h5⟩ := bdB_parts hb
  simp only [fitB, inB, Bool.and_eq_true, decide_eq_true_eq] at hx
  exact ⟨holds_mono (by simp [endR]; omega) (by simp [endR]; omega) (by simp [endR]; omega) (by simp [endR]; omega), holds_mono (by omega) (by simp [endR]; omega) (by simp [endR]; omega) (by simp [endR]; omega)⟩
theorem fit_end {b : Bd} (hb : bdB b = true) (hi : Bool) : fitB b (endR hi b) = true := by
  obtain ⟨_, _, h3, h4, h5⟩ := bdB_parts hb
  cases hi <;> simp [fitB, inB, endR] <;> omega
/-- A bed, and a slope, with more water. -/
def wetBd (m : Int) (b : Bd) : Bd := { b with wa := ⟨b.wa.lo, mnI 100000 (b.wa.hi + m)⟩ }
def wetS (s : Sd) (m : Int) : Sd := { s with cols := s.cols.map fun l => l.map (wetBd m) }
theorem wet_bd {m : Int} {b : Bd} (hm : 0 ≤ m) (h : bdB b = true) : bdB (wetBd m b) = true := by
  unfold bdB at h ⊢
  rw [Bool.and_eq_true] at h ⊢
  refine ⟨h.1, ?_⟩
  have h2 := h.2
  simp only [rgU, Bool.and_eq_true, decide_eq_true_eq] at h2
  have h1 : b.wa.hi ≤ mnI 100000 (b.wa.hi + m) ∧ mnI 100000 (b.wa.hi + m) ≤ 100000 := by unfold mnI; split <;> omega
  show (decide (0 ≤ b.wa.lo) && decide (b.wa.lo ≤ mnI 100000 (b.wa.hi + m)) && decide (mnI 100000 (b.wa.hi + m) ≤ 100000)) = true
  simp only [Bool.and_eq_true, decide_eq_true_eq]
  omega
theorem wet_n (s : Sd) (m : Int) : (wetS s m).n = s.n := by
  unfold Sd.n wetS
  cases s.cols <;> simp
theorem wet_ok {s : Sd} {m : Int} (hm : 0 ≤ m) (h : SdOk s) : SdOk (wetS s m) where
  cols := by have := h.cols; simpa [wetS] using this
  beds := by rw [wet_n]; exact h.beds
  least := h.least
  len l hl := by
    obtain ⟨x, hx, rfl⟩ := List.mem_map.1 hl
    rw [wet_n, List.length_map]
    exact h.len x hx
  bd l hl b hb := by
    obtain ⟨x, hx, rfl⟩ := List.mem_map.1 hl
    obtain ⟨y, hy, rfl⟩ := List.mem_map.1 hb
    exact wet_bd hm (h.bd x hx y hy)
theorem bedAt_map {f : Bd → Bd} {cols : List (List Bd)} {k b : Nat} : bedAt (cols.map fun l => l.map f) k b = (bedAt cols k b).map f := by
  unfold bedAt
  rw [List.getElem?_map]
  cases cols[k]? with
  | none => rfl
  | some l => simp
theorem wet_drive {s : Sd} {m : Int} : dAt (wetS s m) = dAt s := by
  funext k b
  unfold dAt wetS
  rw [bedAt_map]
  cases bedAt s.cols k b <;> rfl
theorem wet_hold {s : Sd} (h : SdOk s) {m m' : Int} (hmm : m ≤ m') (k b : Nat) : hAt false (wetS s m') k b ≤ hAt false (wetS s m) k b := by
  unfold hAt wetS
  rw [bedAt_map, bedAt_map]
  cases hx : bedAt s.cols k b with
  | none => exact Int.le_refl _
  | some x =>
    obtain ⟨l, hl, _, _, hb⟩ := bedAt_mem hx
    obtain ⟨_, _, h3, _⟩ := bdB_parts (h.bd l hl x hb)
    have e : holdsN (wetBd m' x) (endR false (wetBd m' x)) ≤ holdsN (wetBd m x) (endR false (wetBd m x)) := by
      have e1 : ∀ z, holdsN (wetBd m' x) z = holdsN (wetBd m x) z := fun _ => rfl
      rw [e1]
      refine holds_mono (by simp [endR, wetBd]; omega) (by simp [endR, wetBd]) (by simp [endR, wetBd]) ?_
      simp only [endR, wetBd, mnI, Bool.false_eq_true, if_false]
      split <;> split <;> omega
    exact e
theorem wet_zero {s : Sd} (h : SdOk s) : wetS s 0 = s := by
  obtain ⟨cols, least⟩ := s
  unfold wetS
  congr 1
  have : ∀ l ∈ cols, l.map (wetBd 0) = l := fun l hl => by
    have : ∀ b ∈ l, wetBd 0 b = b := fun b hb => by
      obtain ⟨_, _, _, _, h5⟩ := bdB_parts (h.bd l hl b hb)
      obtain ⟨d, n, fr, co, wa⟩ := b
      obtain ⟨lo, hi⟩ := wa
      have e : mnI 100000 hi = hi := by
        dsimp only at h5
        unfold mnI
        split <;> omega
      simp only [wetBd, Int.add_zero, e]
    exact (List.map_congr_left this).trans (List.map_id l)
  exact (List.map_congr_left this).trans (List.map_id cols)
end

section
open Go.RowKit Go.Deep
set_option maxHeartbeats 400000 in
theorem within_any (n lo hi : Int) (w : World) :
    Calls Try.prog 93 #[.int .i64 n, .int .i64 lo, .int .i64 hi] w fun e w' => e = .returned (.bool (inB n lo hi)) ∧ w = w' := by
  by_cases h1 : lo ≤ n <;> by_cases h2 : n ≤ hi <;>
  (go_enter Try.func93, Try.ntmps93
   go_wp2
   go_ret
   exact ⟨by simp [inB, h1, h2], rfl⟩)
set_option maxHeartbeats 400000 in
theorem in_any (n lo hi : Int) (w : World) :
    Calls Try.prog 50 #[.int .i64 n, .int .i64 lo, .int .i64 hi] w fun e w' => e = .returned (.bool (inB n lo hi)) ∧ w = w' := by
  by_cases h1 : lo ≤ n <;> by_cases h2 : n ≤ hi <;>
  (go_enter Try.func50, Try.ntmps50
   go_wp2
   go_ret
   exact ⟨by simp [inB, h1, h2], rfl⟩)
set_option maxHeartbeats 400000 in
theorem low_any (r : Rg) (w : World) : Calls Try.prog 91 #[rgV r] w fun e w' => e = .returned (vi r.lo) ∧ newer w w' := by
  go_enter Try.func91, Try.ntmps91
  go_wp2
  go_ret
  exact ⟨rfl, (Below.refl _ _).alloc (Nat.le_refl _) _⟩
set_option maxHeartbeats 400000 in
theorem high_any (r : Rg) (w : World) : Calls Try.prog 92 #[rgV r] w fun e w' => e = .returned (vi r.hi) ∧ newer w w' := by
  go_enter Try.func92, Try.ntmps92
  go_wp2
  go_ret
  exact ⟨rfl, (Below.refl _ _).alloc (Nat.le_refl _) _⟩
def endG (hi : Bool) : Nat := if hi then 92 else 91
def endI (hi : Bool) (r : Rg) : Int := if hi then r.hi else r.lo
theorem end_any (hi : Bool) (r : Rg) (w : World) : Calls Try.prog (endG hi) #[rgV r] w fun e w' => e = .returned (vi (endI hi r)) ∧ newer w w' := by
  cases hi
  · exact low_any r w
  · exact high_any r w
set_option maxHeartbeats 400000 in
theorem up_any (r : Rg) (most : Int) (w : World) : Calls Try.prog 113 #[rgV r, vi most] w fun e w' => e = .returned (.bool (rgU r most)) ∧ newer w w' := by
  obtain ⟨lo, hi⟩ := r
  unfold rgU
  dsimp only
  by_cases h1 : 0 ≤ lo
  · by_cases h2 : lo ≤ hi
    · by_cases h3 : hi ≤ most
      all_goals
        (go_enter Try.func113, Try.ntmps113
         go_wp2
         go_ret
         exact ⟨ret_bool (by simp <;> omega), (Below.refl _ _).alloc (Nat.le_refl _) _⟩)
    · go_enter Try.func113, Try.ntmps113
      go_wp2
      go_ret
      exact ⟨ret_bool (by simp <;> omega), (Below.refl _ _).alloc (Nat.le_refl _) _⟩
  · go_enter Try.func113, Try.ntmps113
    go_wp2
    go_ret
    exact ⟨ret_bool (by simp <;> omega), (Below.refl _ _).alloc (Nat.le_refl _) _⟩
set_option maxHeartbeats 400000 in
theorem beside_any (a b : Int) (w : World) (ha : -1000000 ≤ a ∧ a ≤ 1000000) (hb : -1000000 ≤ b ∧ b ≤ 1000000) : Calls Try.prog 108 #[vi a, vi b] w fun e w' => e = .returned (.bool (inB (a - b) (-1) 1)) ∧ w = w' := by
  go_enter Try.func108, Try.ntmps108
  go_wp2_with (go_at_call 93; refine (within_any _ _ _ _).mono ?_; rintro e w' ⟨rfl, rfl⟩)
  go_ret
  exact ⟨rfl, rfl⟩
set_option maxHeartbeats 1000000 in
theorem bdValid_any (b : Bd) (w : World) : Calls Try.prog 97 #[bdV b] w fun e w' => e = .returned (.bool (bdB b)) ∧ newer w w' := by
  obtain ⟨drive, normal, fr, co, wa⟩ := b
  unfold bdB
  dsimp only
  have hnw := newer_allocH w (.cells #[vi drive, vi normal, vi fr.lo, vi fr.hi, vi co.lo, vi co.hi, vi wa.lo, vi wa.hi] 104)
  have HN := Lib.hid hnw
  clear hnw
  obtain ⟨q1, h1⟩ : ∃ q, q = inB drive (-100000) 100000 := ⟨_, rfl⟩
  obtain ⟨q2, h2⟩ : ∃ q, q = inB normal 0 100000 := ⟨_, rfl⟩
  obtain ⟨q3, h3⟩ : ∃ q, q = rgU fr 2000 := ⟨_, rfl⟩
  obtain ⟨q4, h4⟩ : ∃ q, q = rgU co 100000 := ⟨_, rfl⟩
  obtain ⟨q5, h5⟩ : ∃ q, q = rgU wa 100000 := ⟨_, rfl⟩
  have H := Lib.hid (And.intro h1 (And.intro h2 (And.intro h3 (And.intro h4 h5))))
  have C1 := Lib.hid (fun W => within_any drive (-100000) 100000 W)
  have C2 := Lib.hid (fun W => within_any normal 0 100000 W)
  have C3 := Lib.hid (fun W => up_any fr 2000 W)
  have C4 := Lib.hid (fun W => up_any co 100000 W)
  have C5 := Lib.hid (fun W => up_any wa 100000 W)
  rw [← h1] at C1 ⊢
  rw [← h2] at C2 ⊢
  rw [← h3] at C3 ⊢
  rw [← h4] at C4 ⊢
  rw [← h5] at C5 ⊢
  clear h1 h2 h3 h4 h5 H
  have hnw := HN.out
  have hbx := Whole.made w 104 #[vi drive, vi normal, vi fr.lo, vi fr.hi, vi co.lo, vi co.hi, vi wa.lo, vi wa.hi]
  have H1 := Lib.hid (And.intro (hnw) (hbx))
  clear hnw hbx HN
  have x0 := H1.out.2.at 0 (v := vi drive) rfl
  have x1 := H1.out.2.at 1 (v := vi normal) rfl
  have x2 := H1.out.2.at 2 (v := vi fr.lo) rfl
  have x3 := H1.out.2.at 3 (v := vi fr.hi) rfl
  have x4 := H1.out.2.at 4 (v := vi co.lo) rfl
  have x5 := H1.out.2.at 5 (v := vi co.hi) rfl
  have x6 := H1.out.2.at 6 (v := vi wa.lo) rfl
  have x7 := H1.out.2.at 7 (v := vi wa.hi) rfl
  go_enter Try.func97, Try.ntmps97
  go_wp2_with fail
  refine (C1.out _).mono ?_
  rintro e w' ⟨rfl, rfl⟩
  cases q1 with
  | false =>
    go_wp2_with fail
    go_ret
    exact ⟨rfl, H1.out.1⟩
  | true =>
    go_wp2_with fail
    refine (C2.out _).mono ?_
    rintro e w' ⟨rfl, rfl⟩
    cases q2 with
    | false =>
      go_wp2_with fail
      go_ret
      exact ⟨rfl, H1.out.1⟩
    | true =>
      go_wp2_with fail
      refine (C3.out _).mono ?_
      rintro e w2 ⟨rfl, hb⟩
      have H3 := Lib.hid (And.intro ((newer_trans H1.out.1 hb)) ((H1.out.2.below hb H1.out.2.lt)))
      clear hb H1 x0 x1 x2 x3 x4 x5 x6 x7
      have x0 := H3.out.2.at 0 (v := vi drive) rfl
      have x1 := H3.out.2.at 1 (v := vi normal) rfl
      have x2 := H3.out.2.at 2 (v := vi fr.lo) rfl
      have x3 := H3.out.2.at 3 (v := vi fr.hi) rfl
      have x4 := H3.out.2.at 4 (v := vi co.lo) rfl
      have x5 := H3.out.2.at 5 (v := vi co.hi) rfl
      have x6 := H3.out.2.at 6 (v := vi wa.lo) rfl
      have x7 := H3.out.2.at 7 (v := vi wa.hi) rfl
      cases q3 with
      | false =>
        go_wp2_with fail
        go_ret
        exact ⟨rfl, H3.out.1⟩
      | true =>
        go_wp2_with fail
        refine (C4.out _).mono ?_
        rintro e w4 ⟨rfl, hb⟩
        have H5 := Lib.hid (And.intro ((newer_trans H3.out.1 hb)) ((H3.out.2.below hb H3.out.2.lt)))
        clear hb H3 x0 x1 x2 x3 x4 x5 x6 x7
        have x0 := H5.out.2.at 0 (v := vi drive) rfl
        have x1 := H5.out.2.at 1 (v := vi normal) rfl
        have x2 := H5.out.2.at 2 (v := vi fr.lo) rfl
        have x3 := H5.out.2.at 3 (v := vi fr.hi) rfl
        have x4 := H5.out.2.at 4 (v := vi co.lo) rfl
        have x5 := H5.out.2.at 5 (v := vi co.hi) rfl
        have x6 := H5.out.2.at 6 (v := vi wa.lo) rfl
        have x7 := H5.out.2.at 7 (v := vi wa.hi) rfl
        cases q4 with
        | false =>
          go_wp2_with fail
          go_ret
          exact ⟨rfl, H5.out.1⟩
        | true =>
          go_wp2_with fail
          refine (C5.out _).mono ?_
          rintro e w6 ⟨rfl, hb⟩
          have H7 := Lib.hid (And.intro ((newer_trans H5.out.1 hb)) ((H5.out.2.below hb H5.out.2.lt)))
          clear hb H5 x0 x1 x2 x3 x4 x5 x6 x7
          go_wp2_with fail
          go_ret
          exact ⟨rfl, H7.out.1⟩
set_option maxHeartbeats 400000 in
theorem notBd_any (x : Bd) (rb : Nat) (b : Bool) (w : World) (hr : w.cell? ⟨rb, 0, none⟩ = some (.func (.func 97) #[] #[]))
    (hf : ∀ W, Below w.heap.size w W → Calls Try.prog 97 #[bdV x] W fun e w' => e = .returned (.bool b) ∧ Below W.heap.size W w') :
    Calls Try.prog 112 #[bdV x, .pointer (some ⟨rb, 0, none⟩)] w fun e w' => e = .returned (.bool (!b)) ∧ Below w.heap.size w w' := by
  have HF := Lib.hid hf
  have hlt := World.block_lt_of_cell? w _ hr
  dsimp only at hlt
  clear hf
  go_enter Try.func112, Try.ntmps112
  go_wp2_with (go_at_call 97; refine (HF.out _ ((Below.refl _ _).alloc (Nat.le_refl _) _)).mono ?_; rintro e w' ⟨rfl, hb⟩)
  go_ret
  exact ⟨rfl, below_step ((Below.refl _ _).alloc (Nat.le_refl _) _) hb (by simp)⟩
set_option maxHeartbeats 400000 in
theorem idxBd_any (l : List Bd) (p : Bd → Bool) (cp rb : Nat) (A : Option Addr) (w : World) (hn : l.length ≤ 1000) (hrow : Row bdL 8 w w.heap.size A l)
    (hf : ∀ c ∈ l, ∀ W, Below w.heap.size w W → Calls Try.prog 112 #[bdV c, .pointer (some ⟨rb, 0, none⟩)] W fun e w' => e = .returned (.bool (p c)) ∧ Below W.heap.size W w') :
    Calls Try.prog 123 #[.slice A l.length cp, .func (.func 112) #[] #[.pointer (some ⟨rb, 0, none⟩)]] w fun e w' => e = .returned (.int .i64 (idx p l)) ∧ Below w.heap.size w w' := by
  have HF := Lib.hid hf
  clear hf
  obtain ⟨n, hnl⟩ : ∃ n, n = l.length := ⟨_, rfl⟩
  rw [← hnl] at hn ⊢
  have HN := Lib.hid hnl
  clear hnl
  go_enter Try.func123, Try.ntmps123
  go_wp2
  go_loopw [4, 5, 8] (fun _ _ i wr => ∃ k : Nat, k ≤ n ∧ i = .int .i64 k ∧ Below w.heap.size w wr ∧ early p l k) (fun _ _ i _ => n - (intOf i).toNat)
  case atStart => exact ⟨0, Nat.zero_le _, rfl, Below.refl _ _, early_zero _ _⟩
  case round =>
    obtain ⟨k, hk, rfl, hbw, he⟩ := hrel
    have HE := Lib.hid he
    clear he
    by_cases hlt : k < n
    · obtain ⟨c, hc⟩ := get_of_lt (l := l) (k := k) (by have := HN.out; omega)
      obtain ⟨b, off, rfl, hb, h0, h1, h2, h3, h4, h5, h6, h7⟩ := row8 (hrow.below hbw) hc
      have HC := Lib.hid hc
      clear hc
      cases hp : p c
      · go_wp2_with (go_at_call 112; refine (HF.out c (List.mem_of_getElem? HC.out) _ hbw).mono ?_; rintro e w' ⟨rfl, hb2⟩)
        go_roundw
        case rel => exact ⟨k + 1, by omega, by go_num, below_next hbw hb2, early_succ HE.out HC.out hp⟩
        case measure => simp [intOf]; omega
      · go_wp2_with (go_at_call 112; refine (HF.out c (List.mem_of_getElem? HC.out) _ hbw).mono ?_; rintro e w' ⟨rfl, hb2⟩)
        go_ret
        exact ⟨ret_int (idx_here p l k c HC.out hp HE.out).symm, below_next hbw hb2⟩
    · go_wp2_with fail
      go_ret
      have hkn : k = l.length := by have := HN.out; omega
      exact ⟨ret_int (idx_none p l (hkn ▸ HE.out)).symm, hbw⟩
set_option maxHeartbeats 400000 in
theorem containsBd_any (l : List Bd) (p : Bd → Bool) (cp rb : Nat) (A : Option Addr) (w : World) (hn : l.length ≤ 1000) (hrow : Row bdL 8 w w.heap.size A l)
    (hf : ∀ c ∈ l, ∀ W, Below w.heap.size w W → Calls Try.prog 112 #[bdV c, .pointer (some ⟨rb, 0, none⟩)] W fun e w' => e = .returned (.bool (p c)) ∧ Below W.heap.size W w') :
    Calls Try.prog 111 #[.slice A l.length cp, .func (.func 112) #[] #[.pointer (some ⟨rb, 0, none⟩)]] w fun e w' => e = .returned (.bool (decide (0 ≤ idx p l))) ∧ Below w.heap.size w w' := by
  have HF := Lib.hid hf
  clear hf
  go_enter Try.func111, Try.ntmps111
  go_wp2_with (go_at_call 123; refine (idxBd_any l p cp rb A _ hn hrow HF.out).mono ?_; rintro e w' ⟨rfl, hb2⟩)
  go_ret
  exact ⟨rfl, hb2⟩
set_option maxHeartbeats 400000 in
theorem allBd_any (l : List Bd) (p : Bd → Bool) (cp : Nat) (A : Option Addr) (w : World) (hn : l.length ≤ 1000) (hrow : Row bdL 8 w w.heap.size A l)
    (hf : ∀ c ∈ l, ∀ W, Below w.heap.size w W → Calls Try.prog 97 #[bdV c] W fun e w' => e = .returned (.bool (p c)) ∧ Below W.heap.size W w') :
    Calls Try.prog 96 #[.slice A l.length cp, .func (.func 97) #[] #[]] w fun e w' => e = .returned (.bool (l.all p)) ∧ Below w.heap.size w w' := by
  have hX := containsBd_any l (fun c => !p c) cp w.heap.size A (w.alloc (.cells #[.func (.func 97) #[] #[]] 143)) hn (hrow_ok hrow _) (fun c hc W hW => notBd_any c w.heap.size (p c) W (keep_cell (Whole.at (Whole.made w 143 #[.func (.func 97) #[] #[]]) 0 rfl) hW) fun W' hW' => hf c hc W' (below_next (below_next ((Below.refl _ _).alloc (Nat.le_refl _) _) hW) hW'))
  have HX := Lib.hid hX
  clear hX hf
  go_enter Try.func96, Try.ntmps96
  go_wp2_with (go_at_call 111; refine (HX.out).mono ?_; rintro e w' ⟨rfl, hb2⟩)
  go_ret
  exact ⟨ret_bool (idx_all p l), below_next ((Below.refl _ _).alloc (Nat.le_refl _) _) hb2⟩
set_option maxHeartbeats 400000 in
theorem notCl_any (x : Cl) (rb : Nat) (b : Bool) (w : World) (nb : Nat) (hr : w.cell? ⟨rb, 0, none⟩ = some (.func (.func 95) #[] #[.pointer (some ⟨nb, 0, none⟩)]))
    (hf : ∀ W, Below w.heap.size w W → Calls Try.prog 95 #[clV x, .pointer (some ⟨nb, 0, none⟩)] W fun e w' => e = .returned (.bool b) ∧ Below W.heap.size W w') :
    Calls Try.prog 110 #[clV x, .pointer (some ⟨rb, 0, none⟩)] w fun e w' => e = .returned (.bool (!b)) ∧ Below w.heap.size w w' := by
  have HF := Lib.hid hf
  have hlt := World.block_lt_of_cell? w _ hr
  dsimp only at hlt
  clear hf
  go_enter Try.func110, Try.ntmps110
  go_wp2_with (go_at_call 95; refine (HF.out _ (Below.refl _ _)).mono ?_; rintro e w' ⟨rfl, hb⟩)
  go_ret
  exact ⟨rfl, hb⟩
set_option maxHeartbeats 400000 in
theorem idxCl_any (l : List Cl) (p : Cl → Bool) (cp rb : Nat) (A : Option Addr) (w : World) (hn : l.length ≤ 1000) (hrow : Row clL 1 w w.heap.size A l)
    (hf : ∀ c ∈ l, ∀ W, Below w.heap.size w W → Calls Try.prog 110 #[clV c, .pointer (some ⟨rb, 0, none⟩)] W fun e w' => e = .returned (.bool (p c)) ∧ Below W.heap.size W w') :
    Calls Try.prog 122 #[.slice A l.length cp, .func (.func 110) #[] #[.pointer (some ⟨rb, 0, none⟩)]] w fun e w' => e = .returned (.int .i64 (idx p l)) ∧ Below w.heap.size w w' := by
  have HF := Lib.hid hf
  clear hf
  obtain ⟨n, hnl⟩ : ∃ n, n = l.length := ⟨_, rfl⟩
  rw [← hnl] at hn ⊢
  have HN := Lib.hid hnl
  clear hnl
  go_enter Try.func122, Try.ntmps122
  go_wp2
  go_loopw [4, 5, 8] (fun _ _ i wr => ∃ k : Nat, k ≤ n ∧ i = .int .i64 k ∧ Below w.heap.size w wr ∧ early p l k) (fun _ _ i _ => n - (intOf i).toNat)
  case atStart => exact ⟨0, Nat.zero_le _, rfl, Below.refl _ _, early_zero _ _⟩
  case round =>
    obtain ⟨k, hk, rfl, hbw, he⟩ := hrel
    have HE := Lib.hid he
    clear he
    by_cases hlt : k < n
    · obtain ⟨c, hc⟩ := get_of_lt (l := l) (k := k) (by have := HN.out; omega)
      obtain ⟨b, off, rfl, hb, h0⟩ := rowC (hrow.below hbw) hc
      have HC := Lib.hid hc
      clear hc
      cases hp : p c
      · go_wp2_with (go_at_call 110; refine (HF.out c (List.mem_of_getElem? HC.out) _ hbw).mono ?_; rintro e w' ⟨rfl, hb2⟩)
        go_roundw
        case rel => exact ⟨k + 1, by omega, by go_num, below_next hbw hb2, early_succ HE.out HC.out hp⟩
        case measure => simp [intOf]; omega
      · go_wp2_with (go_at_call 110; refine (HF.out c (List.mem_of_getElem? HC.out) _ hbw).mono ?_; rintro e w' ⟨rfl, hb2⟩)
        go_ret
        exact ⟨ret_int (idx_here p l k c HC.out hp HE.out).symm, below_next hbw hb2⟩
    · go_wp2_with fail
      go_ret
      have hkn : k = l.length := by have := HN.out; omega
      exact ⟨ret_int (idx_none p l (hkn ▸ HE.out)).symm, hbw⟩
set_option maxHeartbeats 400000 in
theorem containsCl_any (l : List Cl) (p : Cl → Bool) (cp rb : Nat) (A : Option Addr) (w : World) (hn : l.length ≤ 1000) (hrow : Row clL 1 w w.heap.size A l)
    (hf : ∀ c ∈ l, ∀ W, Below w.heap.size w W → Calls Try.prog 110 #[clV c, .pointer (some ⟨rb, 0, none⟩)] W fun e w' => e = .returned (.bool (p c)) ∧ Below W.heap.size W w') :
    Calls Try.prog 109 #[.slice A l.length cp, .func (.func 110) #[] #[.pointer (some ⟨rb, 0, none⟩)]] w fun e w' => e = .returned (.bool (decide (0 ≤ idx p l))) ∧ Below w.heap.size w w' := by
  have HF := Lib.hid hf
  clear hf
  go_enter Try.func109, Try.ntmps109
  go_wp2_with (go_at_call 122; refine (idxCl_any l p cp rb A _ hn hrow HF.out).mono ?_; rintro e w' ⟨rfl, hb2⟩)
  go_ret
  exact ⟨rfl, hb2⟩
set_option maxHeartbeats 400000 in
theorem allCl_any (l : List Cl) (p : Cl → Bool) (cp : Nat) (A : Option Addr) (w : World) (nb : Nat) (hn : l.length ≤ 1000) (hrow : Row clL 1 w w.heap.size A l)
    (hf : ∀ c ∈ l, ∀ W, Below w.heap.size w W → Calls Try.prog 95 #[clV c, .pointer (some ⟨nb, 0, none⟩)] W fun e w' => e = .returned (.bool (p c)) ∧ Below W.heap.size W w') :
    Calls Try.prog 94 #[.slice A l.length cp, .func (.func 95) #[] #[.pointer (some ⟨nb, 0, none⟩)]] w fun e w' => e = .returned (.bool (l.all p)) ∧ Below w.heap.size w w' := by
  have hX := containsCl_any l (fun c => !p c) cp w.heap.size A (w.alloc (.cells #[.func (.func 95) #[] #[.pointer (some ⟨nb, 0, none⟩)]] 144)) hn (hrow_ok hrow _) (fun c hc W hW => notCl_any c w.heap.size (p c) W nb (keep_cell (Whole.at (Whole.made w 144 #[.func (.func 95) #[] #[.pointer (some ⟨nb, 0, none⟩)]]) 0 rfl) hW) fun W' hW' => hf c hc W' (below_next (below_next ((Below.refl _ _).alloc (Nat.le_refl _) _) hW) hW'))
  have HX := Lib.hid hX
  clear hX hf
  go_enter Try.func94, Try.ntmps94
  go_wp2_with (go_at_call 109; refine (HX.out).mono ?_; rintro e w' ⟨rfl, hb2⟩)
  go_ret
  exact ⟨ret_bool (idx_all p l), below_next ((Below.refl _ _).alloc (Nat.le_refl _) _) hb2⟩
/-- No list of a slope is very long. -/
structure SmFew (s : Sm) : Prop where
  cs : s.cs.length ≤ 1000
  bd : ∀ x ∈ s.cs, x.beds.length ≤ 1000
set_option maxHeartbeats 1000000 in
theorem colValid_any (x : Cl) (n : Nat) (nb : Nat) (w : World) (hn : x.beds.length ≤ 1000) (hc : w.cell? ⟨nb, 0, none⟩ = some (vi n)) (hrow : Row bdL 8 w w.heap.size x.a x.beds) :
    Calls Try.prog 95 #[clV x, .pointer (some ⟨nb, 0, none⟩)] w fun e w' => e = .returned (.bool (decide (x.beds.length = n) && x.beds.all bdB)) ∧ newer w w' := by
  have HA := Lib.hid (allBd_any x.beds bdB x.cp x.a w hn hrow fun c _ W _ => bdValid_any c W)
  by_cases h : x.beds.length = n
  · have e1 : ((x.beds.length : Int) == n) = true := by rw [beq_iff_eq]; omega
    rw [decide_eq_true h]
    clear h hn
    go_enter Try.func95, Try.ntmps95
    go_wp2_with fail
    refine (HA.out).mono ?_
    rintro e w1 ⟨rfl, hb⟩
    have HB := Lib.hid hb
    clear hb HA
    go_wp2_with fail
    go_ret
    exact ⟨rfl, HB.out⟩
  · have e1 : ((x.beds.length : Int) == n) = false := by rw [beq_eq_false_iff_ne]; omega
    rw [decide_eq_false h]
    clear h hn
    go_enter Try.func95, Try.ntmps95
    go_wp2_with fail
    go_ret
    exact ⟨rfl, Below.refl _ _⟩
theorem sd_n {s : Sm} {x : Cl} (h : s.cs[0]? = some x) : s.sd.n = x.beds.length := by
  unfold Sm.sd Sd.n
  cases hs : s.cs with
  | nil => rw [hs] at h; simp at h
  | cons y l =>
    rw [hs] at h
    have e : y = x := by simpa using h
    subst e
    rfl
theorem sd_len (s : Sm) : s.sd.cols.length = s.cs.length := by simp [Sm.sd]
theorem sd_all (s : Sm) (p : List Bd → Bool) : s.sd.cols.all p = s.cs.all fun x => p x.beds := by simp [Sm.sd, List.all_map, Function.comp_def]
set_option maxRecDepth 100000 in
set_option maxHeartbeats 2000000 in
theorem valid_any (s : Sm) (w : World) (hok : SmOk s w) (few : SmFew s) : Calls Try.prog 64 #[smV s] w fun e w' => e = .returned (.bool (slopeB s.sd)) ∧ newer w w' := by
  have hnw := newer_allocH w (.cells (smC s) 37)
  have hbx := Whole.made w 37 (smC s)
  have HOK := Lib.hid hok
  have HF := Lib.hid few
  unfold slopeB
  rw [sd_len, sd_all, show s.sd.least = s.least from rfl]
  have C1 := Lib.hid (fun W => within_any s.cs.length 1 12 W)
  have C3 := Lib.hid (fun W => within_any s.least 1 4 W)
  obtain ⟨q1, h1⟩ : ∃ q, q = inB s.cs.length 1 12 := ⟨_, rfl⟩
  obtain ⟨q3, h3⟩ : ∃ q, q = inB s.least 1 4 := ⟨_, rfl⟩
  have HQ1 := Lib.hid h1
  rw [← h1] at C1 ⊢
  rw [← h3] at C3 ⊢
  clear h1 h3 hok few
  have H1 := Lib.hid (And.intro (hnw) (hbx))
  clear hnw hbx
  have x0 := H1.out.2.at 0 (v := .slice s.a s.cs.length s.c) rfl
  have x1 := H1.out.2.at 1 (v := vi s.least) rfl
  cases q1 with
  | false =>
    go_enter Try.func64, Try.ntmps64
    go_wp2_with fail
    refine (C1.out _).mono ?_
    rintro e w' ⟨rfl, rfl⟩
    go_wp2_with fail
    go_ret
    exact ⟨rfl, H1.out.1⟩
  | true =>
    have hl1 : inB s.cs.length 1 12 = true := HQ1.out.symm
    simp only [inB, Bool.and_eq_true, decide_eq_true_eq] at hl1
    obtain ⟨x, hx⟩ := get_of_lt (l := s.cs) (k := 0) (by omega)
    have HX := Lib.hid hx
    rw [sd_n hx]
    have hne : ¬ (s.cs = []) := by intro h; rw [h] at hl1; simp at hl1
    have hl0 : (0 : Int) < s.cs.length := by omega
    have C2 := Lib.hid (fun W => within_any x.beds.length 1 5 W)
    obtain ⟨q2, h2⟩ : ∃ q, q = inB x.beds.length 1 5 := ⟨_, rfl⟩
    rw [← h2] at C2 ⊢
    clear h2 hx hl1
    obtain ⟨b2, o2, e2, _, cx⟩ := rowC (HOK.out.next H1.out.1).cs HX.out
    rw [e2] at x0
    simp only [Nat.add_zero] at cx
    clear hne e2
    go_enter Try.func64, Try.ntmps64
    go_wp2_with fail
    refine (C1.out _).mono ?_
    rintro e w' ⟨rfl, rfl⟩
    go_wp2_with fail
    refine (C2.out _).mono ?_
    rintro e w' ⟨rfl, rfl⟩
    cases q2 with
    | false =>
      go_wp2_with fail
      go_ret
      exact ⟨rfl, H1.out.1⟩
    | true =>
      go_wp2_with fail
      refine (C3.out _).mono ?_
      rintro e w' ⟨rfl, rfl⟩
      cases q3 with
      | false =>
        go_wp2_with fail
        go_ret
        exact ⟨rfl, H1.out.1⟩
      | true =>
        go_upto_region 4 with fail
        refine genQ (fun X => newer w X ∧ Whole X w.heap.size 37 (smC s) ∧ Whole X (w.heap.size + 1) 3 #[vi x.beds.length]) ⟨(newer_trans H1.out.1 (newer_allocH (w.alloc (.cells (smC s) 37)) (.cells #[vi x.beds.length] 3))), (H1.out.2.below (newer_allocH (w.alloc (.cells (smC s) 37)) (.cells #[vi x.beds.length] 3)) H1.out.2.lt), (by have h := Whole.made (w.alloc (.cells (smC s) 37)) 3 #[vi x.beds.length]; rw [World.size_alloc] at h; exact h)⟩ ?_
        obtain ⟨nb, hnb⟩ : ∃ nb, nb = w.heap.size + 1 := ⟨_, rfl⟩
        rw [← hnb]
        clear hnb
        rintro w2 ⟨g0_, g1_, g2_⟩
        have H3 := Lib.hid (And.intro (g0_) (And.intro (g1_) (g2_)))
        clear g0_ g1_ g2_ H1 x0 x1 cx hl0
        have x0 := H3.out.2.1.at 0 (v := .slice s.a s.cs.length s.c) rfl
        have x1 := H3.out.2.1.at 1 (v := vi s.least) rfl
        have HAL := Lib.hid (allCl_any s.cs (fun z => decide (z.beds.length = x.beds.length) && z.beds.all bdB) s.c s.a w2 nb HF.out.cs (HOK.out.next H3.out.1).cs fun z hz V hV => colValid_any z x.beds.length nb V (HF.out.bd z hz) ((H3.out.2.2.below hV H3.out.2.2.lt).at 0 rfl) ((HOK.out.next (newer_trans H3.out.1 hV)).bd z hz))
        go_wp2_with fail
        refine (HAL.out).mono ?_
        rintro e w4 ⟨rfl, hb⟩
        have H5 := Lib.hid (And.intro ((newer_trans H3.out.1 hb)) (And.intro ((H3.out.2.1.below hb H3.out.2.1.lt)) ((H3.out.2.2.below hb H3.out.2.2.lt))))
        clear hb HAL H3 x0 x1
        go_wp2_with fail
        go_ret
        exact ⟨rfl, H5.out.1⟩
end

section
open Go.RowKit Go.Deep
set_option maxHeartbeats 1000000 in
theorem holds_any (b : Bd) (x : Rl) (w : World) (hn : 0 ≤ b.normal ∧ b.normal ≤ 100000) (h1 : 0 ≤ x.fr ∧ x.fr ≤ 2000) (h2 : 0 ≤ x.co ∧ x.co ≤ 100000) (h3 : 0 ≤ x.wa ∧ x.wa ≤ 100000) :
    Calls Try.prog 89 #[bdV b, rlV x] w fun e w' => e = .returned (vi (holdsN b x)) ∧ newer w w' := by
  have hp := holds_bd (b := b) (x := x) hn h1 h2 h3.1
  obtain ⟨drive, normal, fr, co, wa⟩ := b
  obtain ⟨xf, xc, xw⟩ := x
  unfold holdsN at hp ⊢
  dsimp only at hn h1 h2 h3 hp ⊢
  have HN := Lib.hid (newer_trans (newer_allocH w (.cells #[vi drive, vi normal, vi fr.lo, vi fr.hi, vi co.lo, vi co.hi, vi wa.lo, vi wa.hi] 104)) (newer_allocH (w.alloc (.cells #[vi drive, vi normal, vi fr.lo, vi fr.hi, vi co.lo, vi co.hi, vi wa.lo, vi wa.hi] 104)) (.cells #[vi xf, vi xc, vi xw] 101)))
  by_cases hd : 0 < normal - xw
  · have e : mxI 0 (normal - xw) = normal - xw := by unfold mxI; rw [if_pos hd]
    rw [e] at hp ⊢
    have hd2 : xw < normal := by omega
    clear e
    go_enter Try.func89, Try.ntmps89
    go_wp2_with fail
    all_goals first
      | (exfalso; omega)
      | (go_ret; exact ⟨rfl, HN.out⟩)
  · have e : mxI 0 (normal - xw) = 0 := by unfold mxI; rw [if_neg hd]
    rw [e] at hp ⊢
    have hd2 : ¬ xw < normal := by omega
    simp only [Int.zero_mul, Int.zero_ediv, Int.zero_add] at hp ⊢
    clear e
    go_enter Try.func89, Try.ntmps89
    go_wp2_with fail
    all_goals first
      | (exfalso; omega)
      | (go_ret; exact ⟨rfl, HN.out⟩)
theorem call_end (g : Bool) (args : Array Value) (W : World) : (callFunc (endG g) args).run Try.prog W = .ok (.enter (endG g) args) W := by
  cases g <;> simp [endG, go_sem]
theorem endR_is (hs : Bool) (b : Bd) : (⟨endI hs b.fr, endI hs b.co, endI (!hs) b.wa⟩ : Rl) = endR hs b := by cases hs <;> rfl
set_option maxRecDepth 100000 in
set_option maxHeartbeats 2000000 in
theorem real_any (hs : Bool) (b : Bd) (w : World) : Calls Try.prog 90 #[bdV b, .func (.func (endG hs)) #[] #[], .func (.func (endG (!hs))) #[] #[]] w fun e w' => e = .returned (rlV (endR hs b)) ∧ newer w w' := by
  have hnw := newer_trans (newer_allocH w (.cells (bdC b) 104)) (newer_allocH (w.alloc (.cells (bdC b) 104)) (.cells #[vi 0, vi 0, vi 0] 101))
  have hbx := (Whole.made w 104 (bdC b)).alloc (.cells #[vi 0, vi 0, vi 0] 101)
  have hrb := Whole.made (w.alloc (.cells (bdC b) 104)) 101 #[vi 0, vi 0, vi 0]
  simp only [World.size_alloc] at hrb
  rw [← endR_is]
  have H1 := Lib.hid (And.intro (hnw) (And.intro (hbx) (hrb)))
  clear hnw hbx hrb
  have x0 := H1.out.2.1.at 0 (v := vi b.drive) rfl
  have x1 := H1.out.2.1.at 1 (v := vi b.normal) rfl
  have x2 := H1.out.2.1.at 2 (v := vi b.fr.lo) rfl
  have x3 := H1.out.2.1.at 3 (v := vi b.fr.hi) rfl
  have x4 := H1.out.2.1.at 4 (v := vi b.co.lo) rfl
  have x5 := H1.out.2.1.at 5 (v := vi b.co.hi) rfl
  have x6 := H1.out.2.1.at 6 (v := vi b.wa.lo) rfl
  have x7 := H1.out.2.1.at 7 (v := vi b.wa.hi) rfl
  go_enter Try.func90, Try.ntmps90
  go_upto_region 1 with fail
  refine wp_words (by kernel_rfl) (region_told 13 (by kernel_rfl) (by kernel_rfl) (fun W => Below ((w.alloc (.cells (bdC b) 104)).alloc (.cells #[vi 0, vi 0, vi 0] 101)).heap.size ((w.alloc (.cells (bdC b) 104)).alloc (.cells #[vi 0, vi 0, vi 0] 101)) W) newer (pickD [vIs (.func (.func (endG hs)) #[] #[]), vIs (.pointer (some ⟨w.heap.size, 2, none⟩)), vIs (rgV b.fr), vIs (vi (endI hs b.fr)), vIs (.func (.func (endG hs)) #[] #[]), vIs (.pointer (some ⟨w.heap.size, 4, none⟩)), vIs (rgV b.co), vIs (vi (endI hs b.co)), vIs (.func (.func (endG (!hs))) #[] #[]), vIs (.pointer (some ⟨w.heap.size, 6, none⟩)), vIs (rgV b.wa), vIs (vi (endI (!hs) b.wa)), vIs (.agg #[vi (endI hs b.fr), vi (endI hs b.co), vi (endI (!hs) b.wa)])]) (fun h k => newer_trans h k) (pickD_stable _ ⟨vIs_st, vIs_st, vIs_st, vIs_st, vIs_st, vIs_st, vIs_st, vIs_st, vIs_st, vIs_st, vIs_st, vIs_st, vIs_st, trivial⟩) (Below.refl _ ((w.alloc (.cells (bdC b) 104)).alloc (.cells #[vi 0, vi 0, vi 0] 101))).drew (Below.refl _ _) ?_ ?_)
  · refine ⟨?_, ?_, ?_, ?_, ?_, ?_, ?_, ?_, ?_, ?_, ?_, ?_, ?_, trivial⟩
    · intro a W hG hR hO hp
      have h1 := hO.slot 1 (by kernel_rfl)
      refine wp_yields (v := .func (.func (endG hs)) #[] #[]) ?_ ⟨_, rfl, rfl, Below.refl _ _, hG⟩
      simp [slotOf] at h1
      simp [execOp, go_sem, h1]
    · intro a W hG hR hO hp
      have h3 := hO.slot 3 (by kernel_rfl)
      refine wp_yields (v := .pointer (some ⟨w.heap.size, 2, none⟩)) ?_ ⟨_, rfl, rfl, Below.refl _ _, hG⟩
      simp [slotOf] at h3
      simp [execOp, go_sem, h3]
    · intro a W hG hR hO hp
      have h8 : slotOf a 8 = .pointer (some ⟨w.heap.size, 2, none⟩) := hp.1
      have c0 := keep_cell x2 hG
      have c1 := keep_cell x3 hG
      refine wp_yields (v := rgV b.fr) ?_ ⟨_, rfl, rfl, Below.refl _ _, hG⟩
      simp [slotOf] at h8
      simp [execOp, go_sem, h8, c0, c1]
    · intro a W hG hR hO hp
      have h7 : slotOf a 7 = .func (.func (endG hs)) #[] #[] := hp.1
      have h9 : slotOf a 9 = rgV b.fr := hp.2.1
      refine wp_enters (f := (endG hs)) (args := #[rgV b.fr]) ?_ ((end_any hs b.fr W).mono ?_)
      · simp [slotOf] at h7 h9
        simp [execOp, go_sem, h7, h9, call_end]
      · rintro e w' ⟨rfl, hb⟩
        exact ⟨_, rfl, _, rfl, rfl, hb, below_next hG hb⟩
    · intro a W hG hR hO hp
      have h1 := hO.slot 1 (by kernel_rfl)
      refine wp_yields (v := .func (.func (endG hs)) #[] #[]) ?_ ⟨_, rfl, rfl, Below.refl _ _, hG⟩
      simp [slotOf] at h1
      simp [execOp, go_sem, h1]
    · intro a W hG hR hO hp
      have h3 := hO.slot 3 (by kernel_rfl)
      refine wp_yields (v := .pointer (some ⟨w.heap.size, 4, none⟩)) ?_ ⟨_, rfl, rfl, Below.refl _ _, hG⟩
      simp [slotOf] at h3
      simp [execOp, go_sem, h3]
    · intro a W hG hR hO hp
      have h12 : slotOf a 12 = .pointer (some ⟨w.heap.size, 4, none⟩) := hp.1
      have c0 := keep_cell x4 hG
      have c1 := keep_cell x5 hG
      refine wp_yields (v := rgV b.co) ?_ ⟨_, rfl, rfl, Below.refl _ _, hG⟩
      simp [slotOf] at h12
      simp [execOp, go_sem, h12, c0, c1]
    · intro a W hG hR hO hp
      have h11 : slotOf a 11 = .func (.func (endG hs)) #[] #[] := hp.1
      have h13 : slotOf a 13 = rgV b.co := hp.2.1
      refine wp_enters (f := (endG hs)) (args := #[rgV b.co]) ?_ ((end_any hs b.co W).mono ?_)
      · simp [slotOf] at h11 h13
        simp [execOp, go_sem, h11, h13, call_end]
      · rintro e w' ⟨rfl, hb⟩
        exact ⟨_, rfl, _, rfl, rfl, hb, below_next hG hb⟩
    · intro a W hG hR hO hp
      have h2 := hO.slot 2 (by kernel_rfl)
      refine wp_yields (v := .func (.func (endG (!hs))) #[] #[]) ?_ ⟨_, rfl, rfl, Below.refl _ _, hG⟩
      simp [slotOf] at h2
      simp [execOp, go_sem, h2]
    · intro a W hG hR hO hp
      have h3 := hO.slot 3 (by kernel_rfl)
      refine wp_yields (v := .pointer (some ⟨w.heap.size, 6, none⟩)) ?_ ⟨_, rfl, rfl, Below.refl _ _, hG⟩
      simp [slotOf] at h3
      simp [execOp, go_sem, h3]
    · intro a W hG hR hO hp
      have h16 : slotOf a 16 = .pointer (some ⟨w.heap.size, 6, none⟩) := hp.1
      have c0 := keep_cell x6 hG
      have c1 := keep_cell x7 hG
      refine wp_yields (v := rgV b.wa) ?_ ⟨_, rfl, rfl, Below.refl _ _, hG⟩
      simp [slotOf] at h16
      simp [execOp, go_sem, h16, c0, c1]
    · intro a W hG hR hO hp
      have h15 : slotOf a 15 = .func (.func (endG (!hs))) #[] #[] := hp.1
      have h17 : slotOf a 17 = rgV b.wa := hp.2.1
      refine wp_enters (f := (endG (!hs))) (args := #[rgV b.wa]) ?_ ((end_any (!hs) b.wa W).mono ?_)
      · simp [slotOf] at h15 h17
        simp [execOp, go_sem, h15, h17, call_end]
      · rintro e w' ⟨rfl, hb⟩
        exact ⟨_, rfl, _, rfl, rfl, hb, below_next hG hb⟩
    · intro a W hG hR hO hp
      have h10 : slotOf a 10 = vi (endI hs b.fr) := hp.1
      have h14 : slotOf a 14 = vi (endI hs b.co) := hp.2.1
      have h18 : slotOf a 18 = vi (endI (!hs) b.wa) := hp.2.2.1
      refine wp_yields (v := .agg #[vi (endI hs b.fr), vi (endI hs b.co), vi (endI (!hs) b.wa)]) ?_ ⟨_, rfl, rfl, Below.refl _ _, hG⟩
      simp [slotOf] at h10 h14 h18
      simp [execOp, go_sem, h10, h14, h18]
  · intro wz hG hR
    rintro _ rfl _ rfl _ rfl _ rfl _ rfl _ rfl _ rfl _ rfl _ rfl _ rfl _ rfl _ rfl _ rfl
    change wpList _ _ _ _ _ _
    simp only [Act.put, List.setIfInBounds_toArray, List.set_cons_zero, List.set_cons_succ, List.drop_succ_cons, List.drop_zero]
    clear hR
    have H2 := Lib.hid (And.intro ((newer_trans H1.out.1 hG)) (And.intro ((H1.out.2.1.below hG H1.out.2.1.lt)) ((H1.out.2.2.below hG H1.out.2.2.lt))))
    clear hG H1 x0 x1 x2 x3 x4 x5 x6 x7
    have f0 := H2.out.2.2.free 0
    have f1 := H2.out.2.2.free 1
    have f2 := H2.out.2.2.free 2
    have r0 := H2.out.2.2.at 0 (v := vi 0) rfl
    have r1 := H2.out.2.2.at 1 (v := vi 0) rfl
    have r2 := H2.out.2.2.at 2 (v := vi 0) rfl
    go_wp2_with fail
    have HZ := Lib.hid (And.intro (((H2.out.1.setCell (p := ⟨w.heap.size + 1, 0, none⟩) (Nat.le_succ _) (vi (endI hs b.fr))).setCell (p := ⟨w.heap.size + 1, 1, none⟩) (Nat.le_succ _) (vi (endI hs b.co))).setCell (p := ⟨w.heap.size + 1, 2, none⟩) (Nat.le_succ _) (vi (endI (!hs) b.wa))) (((H2.out.2.2.set 0 (vi (endI hs b.fr))).set 1 (vi (endI hs b.co))).set 2 (vi (endI (!hs) b.wa))))
    have z0 := HZ.out.2.at 0 (v := vi (endI hs b.fr)) rfl
    have z1 := HZ.out.2.at 1 (v := vi (endI hs b.co)) rfl
    have z2 := HZ.out.2.at 2 (v := vi (endI (!hs) b.wa)) rfl
    exact bodyPost_ret (v := .agg #[vi (endI hs b.fr), vi (endI hs b.co), vi (endI (!hs) b.wa)]) (by simp [results, Try.results90, go_sem, z0, z1, z2]) rfl ⟨rfl, HZ.out.1⟩
set_option maxHeartbeats 1000000 in
theorem least_any (b : Bd) (w : World) : Calls Try.prog 61 #[bdV b] w fun e w' => e = .returned (rlV (endR false b)) ∧ newer w w' := by
  have hnw := newer_trans (newer_allocH w (.cells (bdC b) 104)) (newer_allocH (w.alloc (.cells (bdC b) 104)) (.cells #[vi 0, vi 0, vi 0] 101))
  have hbx := (Whole.made w 104 (bdC b)).alloc (.cells #[vi 0, vi 0, vi 0] 101)
  have hrb := Whole.made (w.alloc (.cells (bdC b) 104)) 101 #[vi 0, vi 0, vi 0]
  simp only [World.size_alloc] at hrb
  obtain ⟨x, hx⟩ : ∃ x, x = endR false b := ⟨_, rfl⟩
  have HA := Lib.hid (fun W => real_any false b W)
  rw [← hx] at HA ⊢
  clear hx
  have H1 := Lib.hid (And.intro (hnw) (And.intro (hbx) (hrb)))
  clear hnw hbx hrb
  have x0 := H1.out.2.1.at 0 (v := vi b.drive) rfl
  have x1 := H1.out.2.1.at 1 (v := vi b.normal) rfl
  have x2 := H1.out.2.1.at 2 (v := vi b.fr.lo) rfl
  have x3 := H1.out.2.1.at 3 (v := vi b.fr.hi) rfl
  have x4 := H1.out.2.1.at 4 (v := vi b.co.lo) rfl
  have x5 := H1.out.2.1.at 5 (v := vi b.co.hi) rfl
  have x6 := H1.out.2.1.at 6 (v := vi b.wa.lo) rfl
  have x7 := H1.out.2.1.at 7 (v := vi b.wa.hi) rfl
  go_enter Try.func61, Try.ntmps61
  go_wp2_with fail
  refine (HA.out _).mono ?_
  rintro e w2 ⟨rfl, hb⟩
  have H3 := Lib.hid (And.intro ((newer_trans H1.out.1 hb)) (And.intro ((H1.out.2.1.below hb H1.out.2.1.lt)) ((H1.out.2.2.below hb H1.out.2.2.lt))))
  clear hb HA H1 x0 x1 x2 x3 x4 x5 x6 x7
  have f0 := H3.out.2.2.free 0
  have f1 := H3.out.2.2.free 1
  have f2 := H3.out.2.2.free 2
  have r0 := H3.out.2.2.at 0 (v := vi 0) rfl
  have r1 := H3.out.2.2.at 1 (v := vi 0) rfl
  have r2 := H3.out.2.2.at 2 (v := vi 0) rfl
  go_wp2_with fail
  have HZ := Lib.hid (And.intro (((H3.out.1.setCell (p := ⟨w.heap.size + 1, 0, none⟩) (Nat.le_succ _) (vi x.fr)).setCell (p := ⟨w.heap.size + 1, 1, none⟩) (Nat.le_succ _) (vi x.co)).setCell (p := ⟨w.heap.size + 1, 2, none⟩) (Nat.le_succ _) (vi x.wa)) (((H3.out.2.2.set 0 (vi x.fr)).set 1 (vi x.co)).set 2 (vi x.wa)))
  have z0 := HZ.out.2.at 0 (v := vi x.fr) rfl
  have z1 := HZ.out.2.at 1 (v := vi x.co) rfl
  have z2 := HZ.out.2.at 2 (v := vi x.wa) rfl
  exact bodyPost_ret (v := .agg #[vi x.fr, vi x.co, vi x.wa]) (by simp [results, Try.results61, go_sem, z0, z1, z2]) rfl ⟨rfl, HZ.out.1⟩
set_option maxHeartbeats 1000000 in
theorem most_any (b : Bd) (w : World) : Calls Try.prog 63 #[bdV b] w fun e w' => e = .returned (rlV (endR true b)) ∧ newer w w' := by
  have hnw := newer_trans (newer_allocH w (.cells (bdC b) 104)) (newer_allocH (w.alloc (.cells (bdC b) 104)) (.cells #[vi 0, vi 0, vi 0] 101))
  have hbx := (Whole.made w 104 (bdC b)).alloc (.cells #[vi 0, vi 0, vi 0] 101)
  have hrb := Whole.made (w.alloc (.cells (bdC b) 104)) 101 #[vi 0, vi 0, vi 0]
  simp only [World.size_alloc] at hrb
  obtain ⟨x, hx⟩ : ∃ x, x = endR true b := ⟨_, rfl⟩
  have HA := Lib.hid (fun W => real_any true b W)
  rw [← hx] at HA ⊢
  clear hx
  have H1 := Lib.hid (And.intro (hnw) (And.intro (hbx) (hrb)))
  clear hnw hbx hrb
  have x0 := H1.out.2.1.at 0 (v := vi b.drive) rfl
  have x1 := H1.out.2.1.at 1 (v := vi b.normal) rfl
  have x2 := H1.out.2.1.at 2 (v := vi b.fr.lo) rfl
  have x3 := H1.out.2.1.at 3 (v := vi b.fr.hi) rfl
  have x4 := H1.out.2.1.at 4 (v := vi b.co.lo) rfl
  have x5 := H1.out.2.1.at 5 (v := vi b.co.hi) rfl
  have x6 := H1.out.2.1.at 6 (v := vi b.wa.lo) rfl
  have x7 := H1.out.2.1.at 7 (v := vi b.wa.hi) rfl
  go_enter Try.func63, Try.ntmps63
  go_wp2_with fail
  refine (HA.out _).mono ?_
  rintro e w2 ⟨rfl, hb⟩
  have H3 := Lib.hid (And.intro ((newer_trans H1.out.1 hb)) (And.intro ((H1.out.2.1.below hb H1.out.2.1.lt)) ((H1.out.2.2.below hb H1.out.2.2.lt))))
  clear hb HA H1 x0 x1 x2 x3 x4 x5 x6 x7
  have f0 := H3.out.2.2.free 0
  have f1 := H3.out.2.2.free 1
  have f2 := H3.out.2.2.free 2
  have r0 := H3.out.2.2.at 0 (v := vi 0) rfl
  have r1 := H3.out.2.2.at 1 (v := vi 0) rfl
  have r2 := H3.out.2.2.at 2 (v := vi 0) rfl
  go_wp2_with fail
  have HZ := Lib.hid (And.intro (((H3.out.1.setCell (p := ⟨w.heap.size + 1, 0, none⟩) (Nat.le_succ _) (vi x.fr)).setCell (p := ⟨w.heap.size + 1, 1, none⟩) (Nat.le_succ _) (vi x.co)).setCell (p := ⟨w.heap.size + 1, 2, none⟩) (Nat.le_succ _) (vi x.wa)) (((H3.out.2.2.set 0 (vi x.fr)).set 1 (vi x.co)).set 2 (vi x.wa)))
  have z0 := HZ.out.2.at 0 (v := vi x.fr) rfl
  have z1 := HZ.out.2.at 1 (v := vi x.co) rfl
  have z2 := HZ.out.2.at 2 (v := vi x.wa) rfl
  exact bodyPost_ret (v := .agg #[vi x.fr, vi x.co, vi x.wa]) (by simp [results, Try.results63, go_sem, z0, z1, z2]) rfl ⟨rfl, HZ.out.1⟩
end

end Go.Proofs.Ytkenokpobbichaa
