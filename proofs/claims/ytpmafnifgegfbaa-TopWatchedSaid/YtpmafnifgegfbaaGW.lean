/- Drawn regions with late stores, or with an operation that turns memory; two new blocks apart. -/
import Derived.Test.YtpmafnifgegfbaaGB
namespace Go.Proofs.Ytpmafnifgegfbaa
section
section
open Go.RowKit
variable {P : Program}
theorem region_late_any {l : List Oper} {n : Nat} {Q : Exit → Act → World → Prop} {a₀ : Act} {w : World} (hB : relB l n = true) (m : Nat) (hmn : m < n) (hmd : ∀ o, l[m]? = some o → o.dst = none)
    (G : World → Prop) (D : Bool → Nat → Value → World → Prop)
    (hDs : ∀ b j v W W', D b j v W → newer W W' → D b j v W')
    (hsz : ∀ i o d, i < n → l[i]? = some o → o.dst = some d → d < a₀.tmps.size)
    (hG : G w)
    (hstep : ∀ i o, i < n → i ≠ m → l[i]? = some o → ∀ b, ((∃ om, l[m]? = some om ∧ ∃ e ∈ om.after, Region.binds .any e = true ∧ e.on = i) → b = false) → ∀ a W, G W → Outer l n a₀ a →
      (∀ j oj d, j < n → l[j]? = some oj → oj.dst = some d → (∃ e ∈ o.after, Region.binds .any e = true ∧ e.on = j) → D b j (slotOf a d) W) →
      o.wp P a W (fun a' W' => ∃ v, a' = a.put o.dst v ∧ D b i v W' ∧ newer W W' ∧ G W') Q)
    (hlate : ∀ o, l[m]? = some o → ∀ a W, G W → Outer l n a₀ a →
      (∀ j oj d, j < n → l[j]? = some oj → oj.dst = some d → (∃ e ∈ o.after, Region.binds .any e = true ∧ e.on = j) → D false j (slotOf a d) W) →
      o.wp P a W (fun a' W' => a' = a ∧ G W' ∧ ∀ j oj d, j < n → l[j]? = some oj → oj.dst = some d → D false j (slotOf a d) W → D true j (slotOf a d) W') Q)
    (htail : ∀ a W, G W → Outer l n a₀ a → (∀ j oj d, j < n → l[j]? = some oj → oj.dst = some d → D true j (slotOf a d) W) → wpList P l.toArray Q (l.drop n) a W) :
    wpAny P .any l.toArray Q l.toArray.size (Array.replicate l.toArray.size false) a₀ w := by
  simp only [relB, Bool.and_eq_true, decide_eq_true_eq] at hB
  obtain ⟨⟨⟨⟨⟨hn, hs⟩, hc⟩, hback⟩, hdst⟩, hseq⟩ := hB
  have hback' : ∀ (i : Nat) (o : Oper), l[i]? = some o → (∀ e ∈ o.after, Region.binds .any e = true → e.on < i) ∧ o.guard = none := by
    intro i o ho
    have := List.all_eq_true.1 hback i (List.mem_range.2 (List.getElem?_eq_some_iff.1 ho).1)
    simp only [ho, Bool.and_eq_true, Array.all_eq_true_iff_forall_mem] at this
    exact ⟨fun e he hb => by simpa [hb] using this.1 e he, by simpa using this.2⟩
  have hdst' : ∀ (i j : Nat) (o o' : Oper) (d : Tmp), i < n → j < n → i ≠ j → l[i]? = some o → l[j]? = some o' → o.dst = some d → o'.dst ≠ some d := by
    intro i j o o' d hi hj hij ho ho' hd hd'
    have := List.all_eq_true.1 (List.all_eq_true.1 hdst i (List.mem_range.2 hi)) j (List.mem_range.2 hj)
    simp [hij, ho, ho', hd, hd'] at this
  have key : ∀ (f : Nat) (listed : Array Bool) (a : Act) (W : World), HeadInv .any l.toArray n listed → ((List.range n).filter fun i => !listed.getD i false).length = f →
      G W → Outer l n a₀ a → (∀ (j : Nat) (oj : Oper) (d : Tmp), j < n → l[j]? = some oj → listed.getD j false = true → oj.dst = some d → D (listed.getD m false) j (slotOf a d) W) →
      wpAny P .any l.toArray Q (f + (l.length - n)) listed a W := by
    intro f
    induction f with
    | zero =>
      intro listed a W inv hcnt hGW hO hD
      have hall : ∀ i, i < n → listed.getD i false = true := by
        intro i hi
        have := List.eq_nil_of_length_eq_zero hcnt
        have h2 := List.filter_eq_nil_iff.1 this i (List.mem_range.2 hi)
        simpa using h2
      have hcanon : listed = headDone n l.length := by
        apply Array.ext
        · rw [inv.size]; simp [headDone]
        · intro i h1 h2
          have hi : i < l.length := by simpa [headDone] using h2
          simp only [headDone, Array.getElem_ofFn]
          by_cases hin : i < n
          · have := hall i hin
            simp [h1] at this
            simp [this, hin]
          · have := inv.tail i (by omega) (by simpa using hi)
            simp [h1] at this
            simp [this, hin]
      rw [Nat.zero_add]
      have := wpAny_of_seq (md := .any) (Q' := Q) (P := P) (ops := l.toArray) (l.drop n) n listed a W (fun j => by simp [List.getElem?_drop]) (by rw [List.length_drop, hcanon]; exact hseq) (htail a W hGW hO (fun j oj d hj ho hd => by have := hD j oj d hj ho (hall j hj) hd; rw [hall m hmn] at this; exact this))
      rwa [List.length_drop] at this
    | succ f ih =>
      intro listed a W inv hcnt hGW hO hD
      -- some operation of the head has not come up
      have hex : ∃ i, i < n ∧ listed.getD i false = false ∧ ∀ j, j < i → listed.getD j false = true := by
        have hne : ((List.range n).filter fun i => !listed.getD i false) ≠ [] := by intro h; rw [h] at hcnt; cases hcnt
        have : ∃ i, i < n ∧ listed.getD i false = false := by
          obtain ⟨x, hx⟩ := List.exists_mem_of_ne_nil _ hne
          have hx' := List.mem_filter.1 hx
          exact ⟨x, List.mem_range.1 hx'.1, by simpa using hx'.2⟩
        obtain ⟨i, hi, hl⟩ := this
        have : ∀ k i, i ≤ k → i < n → listed.getD i false = false → ∃ i, i < n ∧ listed.getD i false = false ∧ ∀ j, j < i → listed.getD j false = true := by
          intro k
          induction k with
          | zero => intro i hik hi hl; exact ⟨i, hi, hl, fun j hj => by omega⟩
          | succ k ihk =>
            intro i hik hi hl
            by_cases h : ∃ j, j < i ∧ listed.getD j false = false
            · obtain ⟨j, hj, hjl⟩ := h
              exact ihk j (by omega) (by omega) hjl
            · refine ⟨i, hi, hl, fun j hj => ?_⟩
              cases hh : listed.getD j false with
              | true => rfl
              | false => exact absurd ⟨j, hj, hh⟩ h
        exact this i i (Nat.le_refl _) hi hl
      obtain ⟨i₀, hi₀, hun₀, hbelow⟩ := hex
      have hi₀s : i₀ < listed.size := by rw [inv.size]; simp; omega
      have hl₀ : listed.getD i₀ true = false := getD_in hi₀s hun₀
      have hready₀ : i₀ ∈ Region.ready .any l.toArray listed := by
        have ho : l[i₀]? = some l[i₀] := List.getElem?_eq_getElem (by omega)
        refine mem_ready.2 ⟨hl₀, l[i₀], by simp, fun e he hb => hbelow _ ((hback' i₀ _ ho).1 e he hb)⟩
      rw [show f + 1 + (l.length - n) = f + (l.length - n) + 1 by omega]
      refine ⟨fun h => (by rw [h] at hready₀; cases hready₀), fun i hi => ?_⟩
      have hin : i < n := by
        rcases Nat.lt_or_ge i n with h | h
        · exact h
        · exact absurd hi (tail_waits hs hc (by simpa using hn) inv _ i₀ rfl hi₀ hl₀ i h)
      obtain ⟨hiun, o, ho, hall⟩ := mem_ready.1 hi
      have ho' : l[i]? = some o := by simpa using ho
      unfold wpOp
      simp only [ho]
      have hw : Region.wanted o (yielded l.toArray a.tmps) = true := by simp [Region.wanted, (hback' i o ho').2]
      rw [if_pos hw]
      have hiun' : listed.getD i false = false := getD_both hiun
      have his : i < listed.size := by rw [inv.size]; simp; omega
      have hcount : ((List.range n).filter fun j => !(listed.setIfInBounds i true).getD j false).length = f := by
        have e1 : ((List.range n).filter fun j => !(listed.setIfInBounds i true).getD j false) = ((List.range n).filter fun j => !listed.getD j false).filter (fun j => decide (j ≠ i)) := by
          rw [List.filter_filter]
          apply List.filter_congr
          intro j _
          by_cases hji : j = i
          · subst hji; simp [his]
          · rw [getD_set_ne false (Ne.symm hji)]; simp [hji]
        rw [e1]
        have hnd : ((List.range n).filter fun j => !listed.getD j false).Nodup := List.nodup_range.filter _
        have hmem : i ∈ ((List.range n).filter fun j => !listed.getD j false) := List.mem_filter.2 ⟨List.mem_range.2 hin, by simp [hiun']⟩
        have := filter_ne_length i _ hnd hmem
        omega
      by_cases him : i = m
      · subst him
        rw [hiun'] at hD
        have hdn := hmd o ho'
        have hst := hlate o ho' a W hGW hO (fun j oj d hj hoj hd ⟨e, he, hb, hon⟩ => hD j oj d hj hoj (by rw [← hon]; exact hall e he hb) hd)
        refine .inl (Oper.wp_mono ?_ hst)
        rintro a' W' ⟨rfl, hGv, hkeep⟩
        refine ih _ _ _ (inv.set hi hin) hcount hGv hO ?_
        intro j oj d hj hoj hlj hd
        have hmt : (listed.setIfInBounds i true).getD i false = true := by simp [his]
        rw [hmt]
        by_cases hji : j = i
        · subst hji
          rw [hoj] at ho'
          injection ho' with ho'
          subst ho'
          rw [hdn] at hd
          cases hd
        · rw [getD_set_ne false (Ne.symm hji)] at hlj
          exact hkeep j oj d hj hoj hd (hD j oj d hj hoj hlj hd)
      · have hst := hstep i o hin him ho' (listed.getD m false) (fun hp => by
          cases hm : listed.getD m false with
          | false => rfl
          | true =>
            obtain ⟨om, hom, hin2⟩ := hp
            have := inv.closed m om (by simpa using hom) hm
            obtain ⟨e, he, hb, hon⟩ := hin2
            have h2 := this e he hb
            rw [hon, hiun'] at h2
            cases h2) a W hGW hO (fun j oj d hj hoj hd ⟨e, he, hb, hon⟩ => hD j oj d hj hoj (by rw [← hon]; exact hall e he hb) hd)
        refine .inl (Oper.wp_mono ?_ hst)
        rintro a' W' ⟨v, rfl, hDv, hRv, hGv⟩
        have hOut : Outer l n a₀ (a.put o.dst v) := by
          refine ⟨?_, ?_, fun t ht => ?_⟩
          · cases hd : o.dst <;> simp [Act.put, hO.defers]
          · cases hd : o.dst <;> simp [Act.put, hO.size]
          · cases hd : o.dst with
            | none => simpa [Act.put] using hO.same t ht
            | some d =>
              have hne : d ≠ t := fun h => ht i o hin ho' (by rw [hd, h])
              simp only [Act.put]
              rw [Array.getElem?_setIfInBounds_ne hne]
              exact hO.same t ht
        refine ih _ _ _ (inv.set hi hin) hcount hGv hOut ?_
        intro j oj d hj hoj hlj hd
        rw [getD_set_ne false him]
        by_cases hji : j = i
        · subst hji
          have : oj = o := Option.some.inj (hoj.symm.trans ho')
          subst this
          have hds : d < a.tmps.size := by rw [hO.size]; exact hsz j oj d hj hoj hd
          rw [hd, slot_put_same hds]
          exact hDv
        · rw [getD_set_ne false (Ne.symm hji)] at hlj
          have hold := hDs _ j _ W W' (hD j oj d hj hoj hlj hd) hRv
          cases hdo : o.dst with
          | none => simpa [Act.put] using hold
          | some d' =>
            have hne : d ≠ d' := fun h => hdst' j i oj o d hj hin hji hoj ho' hd (by rw [hdo, h])
            rw [slot_put_other hne]
            exact hold
  have inv0 : HeadInv .any l.toArray n (Array.replicate l.toArray.size false) :=
    ⟨by simp, fun j oj _ hl => (by rw [getD_replicate_false] at hl; cases hl), fun t _ ht => getD_in (by simpa using ht) (getD_replicate_false _ _)⟩
  have := key n _ a₀ w inv0 (by
    have : ((List.range n).filter fun i => !(Array.replicate l.toArray.size false).getD i false) = List.range n := List.filter_eq_self.2 (fun i _ => by rw [getD_replicate_false]; rfl)
    rw [this, List.length_range]) hG ⟨rfl, rfl, fun _ _ => rfl⟩ (fun j oj d _ _ hl => by rw [getD_replicate_false] at hl; cases hl)
  rw [show n + (l.length - n) = l.toArray.size by simp; omega] at this
  exact this
def predB (l : List Oper) (m i : Nat) : Bool := match l[m]? with
  | some o => o.after.toList.any fun e => Region.binds .any e && decide (e.on = i)
  | none => false
/-- One operation of the head; a store (number m) may have come or not. -/
def stepL (P : Program) (l : List Oper) (n m : Nat) (Q : Exit → Act → World → Prop) (a₀ : Act) (G : World → Prop) (D : Bool → Nat → Value → World → Prop) (i : Nat) (o : Oper) : Prop :=
  match Nat.beq i m with
  | true => ∀ a W, G W → Outer l n a₀ a → preds l (D false) a W o.after.toList → o.wp P a W (fun a' W' => a' = a ∧ G W' ∧ ∀ j oj d, j < n → l[j]? = some oj → oj.dst = some d → D false j (slotOf a d) W → D true j (slotOf a d) W') Q
  | false => match predB l m i with
    | true => ∀ a W, G W → Outer l n a₀ a → preds l (D false) a W o.after.toList → o.wp P a W (fun a' W' => ∃ v, a' = a.put o.dst v ∧ D false i v W' ∧ newer W W' ∧ G W') Q
    | false => ∀ b a W, G W → Outer l n a₀ a → preds l (D b) a W o.after.toList → o.wp P a W (fun a' W' => ∃ v, a' = a.put o.dst v ∧ D b i v W' ∧ newer W W' ∧ G W') Q
def stepsL (P : Program) (l : List Oper) (n m : Nat) (Q : Exit → Act → World → Prop) (a₀ : Act) (G : World → Prop) (D : Bool → Nat → Value → World → Prop) : Nat → List Oper → Prop
  | _, [] => True
  | i, o :: os => stepL P l n m Q a₀ G D i o ∧ stepsL P l n m Q a₀ G D (i + 1) os
theorem stepsL_get {l : List Oper} {n m : Nat} {Q : Exit → Act → World → Prop} {a₀ : Act} {G : World → Prop} {D : Bool → Nat → Value → World → Prop} : ∀ (os : List Oper) (k : Nat), stepsL P l n m Q a₀ G D k os → ∀ i o, os[i]? = some o → stepL P l n m Q a₀ G D (k + i) o
  | [], _, _, i, o, h => by simp at h
  | x :: os, k, hs, 0, o, h => by simp at h; subst h; exact hs.1
  | x :: os, k, hs, i + 1, o, h => by
    have := stepsL_get os (k + 1) hs.2 i o (by simpa using h)
    rw [show k + (i + 1) = k + 1 + i by omega]
    exact this
/-- As region_told; m is a store that some operations need not wait for: D false are the words ahead of it, D true behind it. -/
theorem region_late {l : List Oper} (n m : Nat) {Q : Exit → Act → World → Prop} {a₀ : Act} {w : World} (hB : relB l n = true) (hz : szOk a₀.tmps.size (l.take n) = true) (hmn : m < n) (hmd' : (match l[m]? with | some o => o.dst.isNone | none => true) = true)
    (G : World → Prop) (D : Bool → Nat → Value → World → Prop) (hDs : ∀ b j v W W', D b j v W → newer W W' → D b j v W')
    (hG : G w) (hstep : stepsL P l n m Q a₀ G D 0 (l.take n))
    (htail : ∀ W, G W → tailsOk (D true) W (fun a => wpList P l.toArray Q (l.drop n) a W) 0 (l.take n) a₀) :
    wpAny P .any l.toArray Q l.toArray.size (Array.replicate l.toArray.size false) a₀ w := by
  have htake : ∀ (i : Nat) (o : Oper), i < n → l[i]? = some o → (l.take n)[i]? = some o := fun i o hi ho => by rw [List.getElem?_take, if_pos hi]; exact ho
  have hback : ∀ (i : Nat) (o : Oper), i < n → l[i]? = some o → ∀ e ∈ o.after, Region.binds .any e = true → e.on < n := by
    have hB' := hB
    simp only [relB, Bool.and_eq_true, decide_eq_true_eq] at hB'
    obtain ⟨⟨⟨⟨⟨_, _⟩, _⟩, hback⟩, _⟩, _⟩ := hB'
    intro i o hi ho e he hbd
    have := List.all_eq_true.1 hback i (List.mem_range.2 (List.getElem?_eq_some_iff.1 ho).1)
    simp only [ho, Bool.and_eq_true, Array.all_eq_true_iff_forall_mem] at this
    have h2 : e.on < i := by simpa [hbd] using this.1 e he
    omega
  have hmd : ∀ o, l[m]? = some o → o.dst = none := fun o ho => by
    rw [ho] at hmd'
    simpa using hmd'
  refine region_late_any hB m hmn hmd G D hDs (fun i o d hi ho hd => sz_of _ hz i o d (htake i o hi ho) hd) hG ?_ ?_ ?_
  · intro i o hi him ho b hb a W hGW hO hp
    have h := stepsL_get _ _ hstep i o (htake i o hi ho)
    rw [Nat.zero_add] at h
    unfold stepL at h
    have hm : Nat.beq i m = false := by
      cases hq : Nat.beq i m with
      | false => rfl
      | true => exact absurd (Nat.eq_of_beq_eq_true hq) him
    rw [hm] at h
    cases hpb : predB l m i with
    | true =>
      rw [hpb] at h
      obtain rfl : b = false := hb (by
        unfold predB at hpb
        cases hom : l[m]? with
        | none => rw [hom] at hpb; cases hpb
        | some om =>
          rw [hom] at hpb
          obtain ⟨e, he, h2⟩ := List.any_eq_true.1 hpb
          rw [Bool.and_eq_true, decide_eq_true_eq] at h2
          exact ⟨om, rfl, e, by simpa using he, h2.1, h2.2⟩)
      exact h a W hGW hO (preds_of o (hback i o hi ho) hp)
    | false =>
      rw [hpb] at h
      exact h b a W hGW hO (preds_of o (hback i o hi ho) hp)
  · intro o ho a W hGW hO hp
    have h := stepsL_get _ _ hstep m o (htake m o hmn ho)
    rw [Nat.zero_add] at h
    unfold stepL at h
    have hm : Nat.beq m m = true := Nat.beq_refl m
    rw [hm] at h
    exact h a W hGW hO (preds_of o (hback m o hmn ho) hp)
  · intro a W hGW hO hd
    have hh : heads (D true) a W 0 (l.take n) := heads_of _ _ fun j oj d hj hdd => by
      rw [List.getElem?_take] at hj
      split at hj
      · rename_i hjn
        rw [Nat.zero_add]
        exact hd j oj d hjn hj hdd
      · cases hj
    have := tails_filled _ _ _ hh (htail W hGW)
    rwa [filled_eq hO] at this
/-- The words ahead of the store, and behind it. -/
def pickB (p q : List (Value → World → Prop)) (b : Bool) : Nat → Value → World → Prop := match b with
  | true => pickD q
  | false => pickD p
theorem pickB_stable {p q : List (Value → World → Prop)} (hp : allStable newer p) (hq : allStable newer q) : ∀ b i v W W', pickB p q b i v W → newer W W' → pickB p q b i v W'
  | true => pickD_stable q hq
  | false => pickD_stable p hp
end
section
open Go.RowKit
theorem wp_storesE {P : Program} {o : Oper} {a : Act} {W W' : World} {K : Act → World → Prop} {Q : Exit → Act → World → Prop} (h : (execOp a.eval o).run P W = .ok .skip W') (hk : K (a.put o.dst undef) W') : o.wp P a W K Q := by
  unfold Oper.wp
  rw [h]
  exact hk
end
end
section
section
open Go.RowKit
variable {P : Program}
theorem region_lateG_any {l : List Oper} {n : Nat} {Q : Exit → Act → World → Prop} {a₀ : Act} {w : World} (hB : relB l n = true) (m : Nat) (hmn : m < n) (hmd : ∀ o, l[m]? = some o → o.dst = none)
    (G : Bool → World → Prop) (D : Bool → Nat → Value → World → Prop)
    (hDs : ∀ b j v W W', D b j v W → newer W W' → D b j v W')
    (hsz : ∀ i o d, i < n → l[i]? = some o → o.dst = some d → d < a₀.tmps.size)
    (hG : G false w)
    (hstep : ∀ i o, i < n → i ≠ m → l[i]? = some o → ∀ b, ((∃ om, l[m]? = some om ∧ ∃ e ∈ om.after, Region.binds .any e = true ∧ e.on = i) → b = false) → ∀ a W, G b W → Outer l n a₀ a →
      (∀ j oj d, j < n → l[j]? = some oj → oj.dst = some d → (∃ e ∈ o.after, Region.binds .any e = true ∧ e.on = j) → D b j (slotOf a d) W) →
      o.wp P a W (fun a' W' => ∃ v, a' = a.put o.dst v ∧ D b i v W' ∧ newer W W' ∧ G b W') Q)
    (hlate : ∀ o, l[m]? = some o → ∀ a W, G false W → Outer l n a₀ a →
      (∀ j oj d, j < n → l[j]? = some oj → oj.dst = some d → (∃ e ∈ o.after, Region.binds .any e = true ∧ e.on = j) → D false j (slotOf a d) W) →
      o.wp P a W (fun a' W' => a' = a ∧ G true W' ∧ ∀ j oj d, j < n → l[j]? = some oj → oj.dst = some d → D false j (slotOf a d) W → D true j (slotOf a d) W') Q)
    (htail : ∀ a W, G true W → Outer l n a₀ a → (∀ j oj d, j < n → l[j]? = some oj → oj.dst = some d → D true j (slotOf a d) W) → wpList P l.toArray Q (l.drop n) a W) :
    wpAny P .any l.toArray Q l.toArray.size (Array.replicate l.toArray.size false) a₀ w := by
  simp only [relB, Bool.and_eq_true, decide_eq_true_eq] at hB
  obtain ⟨⟨⟨⟨⟨hn, hs⟩, hc⟩, hback⟩, hdst⟩, hseq⟩ := hB
  have hback' : ∀ (i : Nat) (o : Oper), l[i]? = some o → (∀ e ∈ o.after, Region.binds .any e = true → e.on < i) ∧ o.guard = none := by
    intro i o ho
    have := List.all_eq_true.1 hback i (List.mem_range.2 (List.getElem?_eq_some_iff.1 ho).1)
    simp only [ho, Bool.and_eq_true, Array.all_eq_true_iff_forall_mem] at this
    exact ⟨fun e he hb => by simpa [hb] using this.1 e he, by simpa using this.2⟩
  have hdst' : ∀ (i j : Nat) (o o' : Oper) (d : Tmp), i < n → j < n → i ≠ j → l[i]? = some o → l[j]? = some o' → o.dst = some d → o'.dst ≠ some d := by
    intro i j o o' d hi hj hij ho ho' hd hd'
    have := List.all_eq_true.1 (List.all_eq_true.1 hdst i (List.mem_range.2 hi)) j (List.mem_range.2 hj)
    simp [hij, ho, ho', hd, hd'] at this
  have key : ∀ (f : Nat) (listed : Array Bool) (a : Act) (W : World), HeadInv .any l.toArray n listed → ((List.range n).filter fun i => !listed.getD i false).length = f →
      G (listed.getD m false) W → Outer l n a₀ a → (∀ (j : Nat) (oj : Oper) (d : Tmp), j < n → l[j]? = some oj → listed.getD j false = true → oj.dst = some d → D (listed.getD m false) j (slotOf a d) W) →
      wpAny P .any l.toArray Q (f + (l.length - n)) listed a W := by
    intro f
    induction f with
    | zero =>
      intro listed a W inv hcnt hGW hO hD
      have hall : ∀ i, i < n → listed.getD i false = true := by
        intro i hi
        have := List.eq_nil_of_length_eq_zero hcnt
        have h2 := List.filter_eq_nil_iff.1 this i (List.mem_range.2 hi)
        simpa using h2
      have hcanon : listed = headDone n l.length := by
        apply Array.ext
        · rw [inv.size]; simp [headDone]
        · intro i h1 h2
          have hi : i < l.length := by simpa [headDone] using h2
          simp only [headDone, Array.getElem_ofFn]
          by_cases hin : i < n
          · have := hall i hin
            simp [h1] at this
            simp [this, hin]
          · have := inv.tail i (by omega) (by simpa using hi)
            simp [h1] at this
            simp [this, hin]
      rw [Nat.zero_add]
      have := wpAny_of_seq (md := .any) (Q' := Q) (P := P) (ops := l.toArray) (l.drop n) n listed a W (fun j => by simp [List.getElem?_drop]) (by rw [List.length_drop, hcanon]; exact hseq) (htail a W (by rw [hall m hmn] at hGW; exact hGW) hO (fun j oj d hj ho hd => by have := hD j oj d hj ho (hall j hj) hd; rw [hall m hmn] at this; exact this))
      rwa [List.length_drop] at this
    | succ f ih =>
      intro listed a W inv hcnt hGW hO hD
      -- some operation of the head has not come up
      have hex : ∃ i, i < n ∧ listed.getD i false = false ∧ ∀ j, j < i → listed.getD j false = true := by
        have hne : ((List.range n).filter fun i => !listed.getD i false) ≠ [] := by intro h; rw [h] at hcnt; cases hcnt
        have : ∃ i, i < n ∧ listed.getD i false = false := by
          obtain ⟨x, hx⟩ := List.exists_mem_of_ne_nil _ hne
          have hx' := List.mem_filter.1 hx
          exact ⟨x, List.mem_range.1 hx'.1, by simpa using hx'.2⟩
        obtain ⟨i, hi, hl⟩ := this
        have : ∀ k i, i ≤ k → i < n → listed.getD i false = false → ∃ i, i < n ∧ listed.getD i false = false ∧ ∀ j, j < i → listed.getD j false = true := by
          intro k
          induction k with
          | zero => intro i hik hi hl; exact ⟨i, hi, hl, fun j hj => by omega⟩
          | succ k ihk =>
            intro i hik hi hl
            by_cases h : ∃ j, j < i ∧ listed.getD j false = false
            · obtain ⟨j, hj, hjl⟩ := h
              exact ihk j (by omega) (by omega) hjl
            · refine ⟨i, hi, hl, fun j hj => ?_⟩
              cases hh : listed.getD j false with
              | true => rfl
              | false => exact absurd ⟨j, hj, hh⟩ h
        exact this i i (Nat.le_refl _) hi hl
      obtain ⟨i₀, hi₀, hun₀, hbelow⟩ := hex
      have hi₀s : i₀ < listed.size := by rw [inv.size]; simp; omega
      have hl₀ : listed.getD i₀ true = false := getD_in hi₀s hun₀
      have hready₀ : i₀ ∈ Region.ready .any l.toArray listed := by
        have ho : l[i₀]? = some l[i₀] := List.getElem?_eq_getElem (by omega)
        refine mem_ready.2 ⟨hl₀, l[i₀], by simp, fun e he hb => hbelow _ ((hback' i₀ _ ho).1 e he hb)⟩
      rw [show f + 1 + (l.length - n) = f + (l.length - n) + 1 by omega]
      refine ⟨fun h => (by rw [h] at hready₀; cases hready₀), fun i hi => ?_⟩
      have hin : i < n := by
        rcases Nat.lt_or_ge i n with h | h
        · exact h
        · exact absurd hi (tail_waits hs hc (by simpa using hn) inv _ i₀ rfl hi₀ hl₀ i h)
      obtain ⟨hiun, o, ho, hall⟩ := mem_ready.1 hi
      have ho' : l[i]? = some o := by simpa using ho
      unfold wpOp
      simp only [ho]
      have hw : Region.wanted o (yielded l.toArray a.tmps) = true := by simp [Region.wanted, (hback' i o ho').2]
      rw [if_pos hw]
      have hiun' : listed.getD i false = false := getD_both hiun
      have his : i < listed.size := by rw [inv.size]; simp; omega
      have hcount : ((List.range n).filter fun j => !(listed.setIfInBounds i true).getD j false).length = f := by
        have e1 : ((List.range n).filter fun j => !(listed.setIfInBounds i true).getD j false) = ((List.range n).filter fun j => !listed.getD j false).filter (fun j => decide (j ≠ i)) := by
          rw [List.filter_filter]
          apply List.filter_congr
          intro j _
          by_cases hji : j = i
          · subst hji; simp [his]
          · rw [getD_set_ne false (Ne.symm hji)]; simp [hji]
        rw [e1]
        have hnd : ((List.range n).filter fun j => !listed.getD j false).Nodup := List.nodup_range.filter _
        have hmem : i ∈ ((List.range n).filter fun j => !listed.getD j false) := List.mem_filter.2 ⟨List.mem_range.2 hin, by simp [hiun']⟩
        have := filter_ne_length i _ hnd hmem
        omega
      by_cases him : i = m
      · subst him
        rw [hiun'] at hD hGW
        have hdn := hmd o ho'
        have hst := hlate o ho' a W hGW hO (fun j oj d hj hoj hd ⟨e, he, hb, hon⟩ => hD j oj d hj hoj (by rw [← hon]; exact hall e he hb) hd)
        refine .inl (Oper.wp_mono ?_ hst)
        rintro a' W' ⟨rfl, hGv, hkeep⟩
        refine ih _ _ _ (inv.set hi hin) hcount (by rw [show (listed.setIfInBounds i true).getD i false = true by simp [his]]; exact hGv) hO ?_
        intro j oj d hj hoj hlj hd
        have hmt : (listed.setIfInBounds i true).getD i false = true := by simp [his]
        rw [hmt]
        by_cases hji : j = i
        · subst hji
          rw [hoj] at ho'
          injection ho' with ho'
          subst ho'
          rw [hdn] at hd
          cases hd
        · rw [getD_set_ne false (Ne.symm hji)] at hlj
          exact hkeep j oj d hj hoj hd (hD j oj d hj hoj hlj hd)
      · have hst := hstep i o hin him ho' (listed.getD m false) (fun hp => by
          cases hm : listed.getD m false with
          | false => rfl
          | true =>
            obtain ⟨om, hom, hin2⟩ := hp
            have := inv.closed m om (by simpa using hom) hm
            obtain ⟨e, he, hb, hon⟩ := hin2
            have h2 := this e he hb
            rw [hon, hiun'] at h2
            cases h2) a W hGW hO (fun j oj d hj hoj hd ⟨e, he, hb, hon⟩ => hD j oj d hj hoj (by rw [← hon]; exact hall e he hb) hd)
        refine .inl (Oper.wp_mono ?_ hst)
        rintro a' W' ⟨v, rfl, hDv, hRv, hGv⟩
        have hOut : Outer l n a₀ (a.put o.dst v) := by
          refine ⟨?_, ?_, fun t ht => ?_⟩
          · cases hd : o.dst <;> simp [Act.put, hO.defers]
          · cases hd : o.dst <;> simp [Act.put, hO.size]
          · cases hd : o.dst with
            | none => simpa [Act.put] using hO.same t ht
            | some d =>
              have hne : d ≠ t := fun h => ht i o hin ho' (by rw [hd, h])
              simp only [Act.put]
              rw [Array.getElem?_setIfInBounds_ne hne]
              exact hO.same t ht
        refine ih _ _ _ (inv.set hi hin) hcount (by rw [getD_set_ne false him]; exact hGv) hOut ?_
        intro j oj d hj hoj hlj hd
        rw [getD_set_ne false him]
        by_cases hji : j = i
        · subst hji
          have : oj = o := Option.some.inj (hoj.symm.trans ho')
          subst this
          have hds : d < a.tmps.size := by rw [hO.size]; exact hsz j oj d hj hoj hd
          rw [hd, slot_put_same hds]
          exact hDv
        · rw [getD_set_ne false (Ne.symm hji)] at hlj
          have hold := hDs _ j _ W W' (hD j oj d hj hoj hlj hd) hRv
          cases hdo : o.dst with
          | none => simpa [Act.put] using hold
          | some d' =>
            have hne : d ≠ d' := fun h => hdst' j i oj o d hj hin hji hoj ho' hd (by rw [hdo, h])
            rw [slot_put_other hne]
            exact hold
  have inv0 : HeadInv .any l.toArray n (Array.replicate l.toArray.size false) :=
    ⟨by simp, fun j oj _ hl => (by rw [getD_replicate_false] at hl; cases hl), fun t _ ht => getD_in (by simpa using ht) (getD_replicate_false _ _)⟩
  have := key n _ a₀ w inv0 (by
    have : ((List.range n).filter fun i => !(Array.replicate l.toArray.size false).getD i false) = List.range n := List.filter_eq_self.2 (fun i _ => by rw [getD_replicate_false]; rfl)
    rw [this, List.length_range]) (by rw [getD_replicate_false]; exact hG) ⟨rfl, rfl, fun _ _ => rfl⟩ (fun j oj d _ _ hl => by rw [getD_replicate_false] at hl; cases hl)
  rw [show n + (l.length - n) = l.toArray.size by simp; omega] at this
  exact this
/-- One operation of the head; a store (number m) may have come or not. -/
def stepG (P : Program) (l : List Oper) (n m : Nat) (Q : Exit → Act → World → Prop) (a₀ : Act) (G : Bool → World → Prop) (D : Bool → Nat → Value → World → Prop) (i : Nat) (o : Oper) : Prop :=
  match Nat.beq i m with
  | true => ∀ a W, G false W → Outer l n a₀ a → preds l (D false) a W o.after.toList → o.wp P a W (fun a' W' => a' = a ∧ G true W' ∧ ∀ j oj d, j < n → l[j]? = some oj → oj.dst = some d → D false j (slotOf a d) W → D true j (slotOf a d) W') Q
  | false => match predB l m i with
    | true => ∀ a W, G false W → Outer l n a₀ a → preds l (D false) a W o.after.toList → o.wp P a W (fun a' W' => ∃ v, a' = a.put o.dst v ∧ D false i v W' ∧ newer W W' ∧ G false W') Q
    | false => ∀ b a W, G b W → Outer l n a₀ a → preds l (D b) a W o.after.toList → o.wp P a W (fun a' W' => ∃ v, a' = a.put o.dst v ∧ D b i v W' ∧ newer W W' ∧ G b W') Q
def stepsG (P : Program) (l : List Oper) (n m : Nat) (Q : Exit → Act → World → Prop) (a₀ : Act) (G : Bool → World → Prop) (D : Bool → Nat → Value → World → Prop) : Nat → List Oper → Prop
  | _, [] => True
  | i, o :: os => stepG P l n m Q a₀ G D i o ∧ stepsG P l n m Q a₀ G D (i + 1) os
theorem stepsG_get {l : List Oper} {n m : Nat} {Q : Exit → Act → World → Prop} {a₀ : Act} {G : Bool → World → Prop} {D : Bool → Nat → Value → World → Prop} : ∀ (os : List Oper) (k : Nat), stepsG P l n m Q a₀ G D k os → ∀ i o, os[i]? = some o → stepG P l n m Q a₀ G D (k + i) o
  | [], _, _, i, o, h => by simp at h
  | x :: os, k, hs, 0, o, h => by simp at h; subst h; exact hs.1
  | x :: os, k, hs, i + 1, o, h => by
    have := stepsG_get os (k + 1) hs.2 i o (by simpa using h)
    rw [show k + (i + 1) = k + 1 + i by omega]
    exact this
/-- As region_told; m is a store that some operations need not wait for: D false are the words ahead of it, D true behind it. -/
theorem region_lateG {l : List Oper} (n m : Nat) {Q : Exit → Act → World → Prop} {a₀ : Act} {w : World} (hB : relB l n = true) (hz : szOk a₀.tmps.size (l.take n) = true) (hmn : m < n) (hmd' : (match l[m]? with | some o => o.dst.isNone | none => true) = true)
    (G : Bool → World → Prop) (D : Bool → Nat → Value → World → Prop) (hDs : ∀ b j v W W', D b j v W → newer W W' → D b j v W')
    (hG : G false w) (hstep : stepsG P l n m Q a₀ G D 0 (l.take n))
    (htail : ∀ W, G true W → tailsOk (D true) W (fun a => wpList P l.toArray Q (l.drop n) a W) 0 (l.take n) a₀) :
    wpAny P .any l.toArray Q l.toArray.size (Array.replicate l.toArray.size false) a₀ w := by
  have htake : ∀ (i : Nat) (o : Oper), i < n → l[i]? = some o → (l.take n)[i]? = some o := fun i o hi ho => by rw [List.getElem?_take, if_pos hi]; exact ho
  have hback : ∀ (i : Nat) (o : Oper), i < n → l[i]? = some o → ∀ e ∈ o.after, Region.binds .any e = true → e.on < n := by
    have hB' := hB
    simp only [relB, Bool.and_eq_true, decide_eq_true_eq] at hB'
    obtain ⟨⟨⟨⟨⟨_, _⟩, _⟩, hback⟩, _⟩, _⟩ := hB'
    intro i o hi ho e he hbd
    have := List.all_eq_true.1 hback i (List.mem_range.2 (List.getElem?_eq_some_iff.1 ho).1)
    simp only [ho, Bool.and_eq_true, Array.all_eq_true_iff_forall_mem] at this
    have h2 : e.on < i := by simpa [hbd] using this.1 e he
    omega
  have hmd : ∀ o, l[m]? = some o → o.dst = none := fun o ho => by
    rw [ho] at hmd'
    simpa using hmd'
  refine region_lateG_any hB m hmn hmd G D hDs (fun i o d hi ho hd => sz_of _ hz i o d (htake i o hi ho) hd) hG ?_ ?_ ?_
  · intro i o hi him ho b hb a W hGW hO hp
    have h := stepsG_get _ _ hstep i o (htake i o hi ho)
    rw [Nat.zero_add] at h
    unfold stepG at h
    have hm : Nat.beq i m = false := by
      cases hq : Nat.beq i m with
      | false => rfl
      | true => exact absurd (Nat.eq_of_beq_eq_true hq) him
    rw [hm] at h
    cases hpb : predB l m i with
    | true =>
      rw [hpb] at h
      obtain rfl : b = false := hb (by
        unfold predB at hpb
        cases hom : l[m]? with
        | none => rw [hom] at hpb; cases hpb
        | some om =>
          rw [hom] at hpb
          obtain ⟨e, he, h2⟩ := List.any_eq_true.1 hpb
          rw [Bool.and_eq_true, decide_eq_true_eq] at h2
          exact ⟨om, rfl, e, by simpa using he, h2.1, h2.2⟩)
      exact h a W hGW hO (preds_of o (hback i o hi ho) hp)
    | false =>
      rw [hpb] at h
      exact h b a W hGW hO (preds_of o (hback i o hi ho) hp)
  · intro o ho a W hGW hO hp
    have h := stepsG_get _ _ hstep m o (htake m o hmn ho)
    rw [Nat.zero_add] at h
    unfold stepG at h
    have hm : Nat.beq m m = true := Nat.beq_refl m
    rw [hm] at h
    exact h a W hGW hO (preds_of o (hback m o hmn ho) hp)
  · intro a W hGW hO hd
    have hh : heads (D true) a W 0 (l.take n) := heads_of _ _ fun j oj d hj hdd => by
      rw [List.getElem?_take] at hj
      split at hj
      · rename_i hjn
        rw [Nat.zero_add]
        exact hd j oj d hjn hj hdd
      · cases hj
    have := tails_filled _ _ _ hh (htail W hGW)
    rwa [filled_eq hO] at this
end
end
section
section
open Go.RowKit
variable {P : Program}
theorem region_turn_any {l : List Oper} {n : Nat} {Q : Exit → Act → World → Prop} {a₀ : Act} {w : World} (hB : relB l n = true) (m : Nat) (hmn : m < n)
    (G : Bool → World → Prop) (D : Bool → Nat → Value → World → Prop)
    (hDs : ∀ b j v W W', D b j v W → newer W W' → D b j v W')
    (hsz : ∀ i o d, i < n → l[i]? = some o → o.dst = some d → d < a₀.tmps.size)
    (hG : G false w)
    (hstep : ∀ i o, i < n → i ≠ m → l[i]? = some o → ∀ b, ((∃ om, l[m]? = some om ∧ ∃ e ∈ om.after, Region.binds .any e = true ∧ e.on = i) → b = false) → ∀ a W, G b W → Outer l n a₀ a →
      (∀ j oj d, j < n → l[j]? = some oj → oj.dst = some d → (∃ e ∈ o.after, Region.binds .any e = true ∧ e.on = j) → D b j (slotOf a d) W) →
      o.wp P a W (fun a' W' => ∃ v, a' = a.put o.dst v ∧ D b i v W' ∧ newer W W' ∧ G b W') Q)
    (hlate : ∀ o, l[m]? = some o → ∀ a W, G false W → Outer l n a₀ a →
      (∀ j oj d, j < n → l[j]? = some oj → oj.dst = some d → (∃ e ∈ o.after, Region.binds .any e = true ∧ e.on = j) → D false j (slotOf a d) W) →
      o.wp P a W (fun a' W' => ∃ v, a' = a.put o.dst v ∧ D true m v W' ∧ G true W' ∧ ∀ j, j ≠ m → ∀ u, D false j u W → D true j u W') Q)
    (htail : ∀ a W, G true W → Outer l n a₀ a → (∀ j oj d, j < n → l[j]? = some oj → oj.dst = some d → D true j (slotOf a d) W) → wpList P l.toArray Q (l.drop n) a W) :
    wpAny P .any l.toArray Q l.toArray.size (Array.replicate l.toArray.size false) a₀ w := by
  simp only [relB, Bool.and_eq_true, decide_eq_true_eq] at hB
  obtain ⟨⟨⟨⟨⟨hn, hs⟩, hc⟩, hback⟩, hdst⟩, hseq⟩ := hB
  have hback' : ∀ (i : Nat) (o : Oper), l[i]? = some o → (∀ e ∈ o.after, Region.binds .any e = true → e.on < i) ∧ o.guard = none := by
    intro i o ho
    have := List.all_eq_true.1 hback i (List.mem_range.2 (List.getElem?_eq_some_iff.1 ho).1)
    simp only [ho, Bool.and_eq_true, Array.all_eq_true_iff_forall_mem] at this
    exact ⟨fun e he hb => by simpa [hb] using this.1 e he, by simpa using this.2⟩
  have hdst' : ∀ (i j : Nat) (o o' : Oper) (d : Tmp), i < n → j < n → i ≠ j → l[i]? = some o → l[j]? = some o' → o.dst = some d → o'.dst ≠ some d := by
    intro i j o o' d hi hj hij ho ho' hd hd'
    have := List.all_eq_true.1 (List.all_eq_true.1 hdst i (List.mem_range.2 hi)) j (List.mem_range.2 hj)
    simp [hij, ho, ho', hd, hd'] at this
  have key : ∀ (f : Nat) (listed : Array Bool) (a : Act) (W : World), HeadInv .any l.toArray n listed → ((List.range n).filter fun i => !listed.getD i false).length = f →
      G (listed.getD m false) W → Outer l n a₀ a → (∀ (j : Nat) (oj : Oper) (d : Tmp), j < n → l[j]? = some oj → listed.getD j false = true → oj.dst = some d → D (listed.getD m false) j (slotOf a d) W) →
      wpAny P .any l.toArray Q (f + (l.length - n)) listed a W := by
    intro f
    induction f with
    | zero =>
      intro listed a W inv hcnt hGW hO hD
      have hall : ∀ i, i < n → listed.getD i false = true := by
        intro i hi
        have := List.eq_nil_of_length_eq_zero hcnt
        have h2 := List.filter_eq_nil_iff.1 this i (List.mem_range.2 hi)
        simpa using h2
      have hcanon : listed = headDone n l.length := by
        apply Array.ext
        · rw [inv.size]; simp [headDone]
        · intro i h1 h2
          have hi : i < l.length := by simpa [headDone] using h2
          simp only [headDone, Array.getElem_ofFn]
          by_cases hin : i < n
          · have := hall i hin
            simp [h1] at this
            simp [this, hin]
          · have := inv.tail i (by omega) (by simpa using hi)
            simp [h1] at this
            simp [this, hin]
      rw [Nat.zero_add]
      have := wpAny_of_seq (md := .any) (Q' := Q) (P := P) (ops := l.toArray) (l.drop n) n listed a W (fun j => by simp [List.getElem?_drop]) (by rw [List.length_drop, hcanon]; exact hseq) (htail a W (by rw [hall m hmn] at hGW; exact hGW) hO (fun j oj d hj ho hd => by have := hD j oj d hj ho (hall j hj) hd; rw [hall m hmn] at this; exact this))
      rwa [List.length_drop] at this
    | succ f ih =>
      intro listed a W inv hcnt hGW hO hD
      -- some operation of the head has not come up
      have hex : ∃ i, i < n ∧ listed.getD i false = false ∧ ∀ j, j < i → listed.getD j false = true := by
        have hne : ((List.range n).filter fun i => !listed.getD i false) ≠ [] := by intro h; rw [h] at hcnt; cases hcnt
        have : ∃ i, i < n ∧ listed.getD i false = false := by
          obtain ⟨x, hx⟩ := List.exists_mem_of_ne_nil _ hne
          have hx' := List.mem_filter.1 hx
          exact ⟨x, List.mem_range.1 hx'.1, by simpa using hx'.2⟩
        obtain ⟨i, hi, hl⟩ := this
        have : ∀ k i, i ≤ k → i < n → listed.getD i false = false → ∃ i, i < n ∧ listed.getD i false = false ∧ ∀ j, j < i → listed.getD j false = true := by
          intro k
          induction k with
          | zero => intro i hik hi hl; exact ⟨i, hi, hl, fun j hj => by omega⟩
          | succ k ihk =>
            intro i hik hi hl
            by_cases h : ∃ j, j < i ∧ listed.getD j false = false
            · obtain ⟨j, hj, hjl⟩ := h
              exact ihk j (by omega) (by omega) hjl
            · refine ⟨i, hi, hl, fun j hj => ?_⟩
              cases hh : listed.getD j false with
              | true => rfl
              | false => exact absurd ⟨j, hj, hh⟩ h
        exact this i i (Nat.le_refl _) hi hl
      obtain ⟨i₀, hi₀, hun₀, hbelow⟩ := hex
      have hi₀s : i₀ < listed.size := by rw [inv.size]; simp; omega
      have hl₀ : listed.getD i₀ true = false := getD_in hi₀s hun₀
      have hready₀ : i₀ ∈ Region.ready .any l.toArray listed := by
        have ho : l[i₀]? = some l[i₀] := List.getElem?_eq_getElem (by omega)
        refine mem_ready.2 ⟨hl₀, l[i₀], by simp, fun e he hb => hbelow _ ((hback' i₀ _ ho).1 e he hb)⟩
      rw [show f + 1 + (l.length - n) = f + (l.length - n) + 1 by omega]
      refine ⟨fun h => (by rw [h] at hready₀; cases hready₀), fun i hi => ?_⟩
      have hin : i < n := by
        rcases Nat.lt_or_ge i n with h | h
        · exact h
        · exact absurd hi (tail_waits hs hc (by simpa using hn) inv _ i₀ rfl hi₀ hl₀ i h)
      obtain ⟨hiun, o, ho, hall⟩ := mem_ready.1 hi
      have ho' : l[i]? = some o := by simpa using ho
      unfold wpOp
      simp only [ho]
      have hw : Region.wanted o (yielded l.toArray a.tmps) = true := by simp [Region.wanted, (hback' i o ho').2]
      rw [if_pos hw]
      have hiun' : listed.getD i false = false := getD_both hiun
      have his : i < listed.size := by rw [inv.size]; simp; omega
      have hcount : ((List.range n).filter fun j => !(listed.setIfInBounds i true).getD j false).length = f := by
        have e1 : ((List.range n).filter fun j => !(listed.setIfInBounds i true).getD j false) = ((List.range n).filter fun j => !listed.getD j false).filter (fun j => decide (j ≠ i)) := by
          rw [List.filter_filter]
          apply List.filter_congr
          intro j _
          by_cases hji : j = i
          · subst hji; simp [his]
          · rw [getD_set_ne false (Ne.symm hji)]; simp [hji]
        rw [e1]
        have hnd : ((List.range n).filter fun j => !listed.getD j false).Nodup := List.nodup_range.filter _
        have hmem : i ∈ ((List.range n).filter fun j => !listed.getD j false) := List.mem_filter.2 ⟨List.mem_range.2 hin, by simp [hiun']⟩
        have := filter_ne_length i _ hnd hmem
        omega
      by_cases him : i = m
      · subst him
        rw [hiun'] at hD hGW
        have hst := hlate o ho' a W hGW hO (fun j oj d hj hoj hd ⟨e, he, hb, hon⟩ => hD j oj d hj hoj (by rw [← hon]; exact hall e he hb) hd)
        refine .inl (Oper.wp_mono ?_ hst)
        rintro a' W' ⟨v, rfl, hDv, hGv, hkeep⟩
        have hOut : Outer l n a₀ (a.put o.dst v) := by
          refine ⟨?_, ?_, fun t ht => ?_⟩
          · cases hd : o.dst <;> simp [Act.put, hO.defers]
          · cases hd : o.dst <;> simp [Act.put, hO.size]
          · cases hd : o.dst with
            | none => simpa [Act.put] using hO.same t ht
            | some d =>
              have hne : d ≠ t := fun h => ht i o hin ho' (by rw [hd, h])
              simp only [Act.put]
              rw [Array.getElem?_setIfInBounds_ne hne]
              exact hO.same t ht
        refine ih _ _ _ (inv.set hi hin) hcount (by rw [show (listed.setIfInBounds i true).getD i false = true by simp [his]]; exact hGv) hOut ?_
        intro j oj d hj hoj hlj hd
        have hmt : (listed.setIfInBounds i true).getD i false = true := by simp [his]
        rw [hmt]
        by_cases hji : j = i
        · subst hji
          have : oj = o := Option.some.inj (hoj.symm.trans ho')
          subst this
          have hds : d < a.tmps.size := by rw [hO.size]; exact hsz j oj d hj hoj hd
          rw [hd, slot_put_same hds]
          exact hDv
        · rw [getD_set_ne false (Ne.symm hji)] at hlj
          have hold := hkeep j hji _ (hD j oj d hj hoj hlj hd)
          cases hdo : o.dst with
          | none => simpa [Act.put] using hold
          | some d' =>
            have hne : d ≠ d' := fun h => hdst' j i oj o d hj hin hji hoj ho' hd (by rw [hdo, h])
            rw [slot_put_other hne]
            exact hold
      · have hst := hstep i o hin him ho' (listed.getD m false) (fun hp => by
          cases hm : listed.getD m false with
          | false => rfl
          | true =>
            obtain ⟨om, hom, hin2⟩ := hp
            have := inv.closed m om (by simpa using hom) hm
            obtain ⟨e, he, hb, hon⟩ := hin2
            have h2 := this e he hb
            rw [hon, hiun'] at h2
            cases h2) a W hGW hO (fun j oj d hj hoj hd ⟨e, he, hb, hon⟩ => hD j oj d hj hoj (by rw [← hon]; exact hall e he hb) hd)
        refine .inl (Oper.wp_mono ?_ hst)
        rintro a' W' ⟨v, rfl, hDv, hRv, hGv⟩
        have hOut : Outer l n a₀ (a.put o.dst v) := by
          refine ⟨?_, ?_, fun t ht => ?_⟩
          · cases hd : o.dst <;> simp [Act.put, hO.defers]
          · cases hd : o.dst <;> simp [Act.put, hO.size]
          · cases hd : o.dst with
            | none => simpa [Act.put] using hO.same t ht
            | some d =>
              have hne : d ≠ t := fun h => ht i o hin ho' (by rw [hd, h])
              simp only [Act.put]
              rw [Array.getElem?_setIfInBounds_ne hne]
              exact hO.same t ht
        refine ih _ _ _ (inv.set hi hin) hcount (by rw [getD_set_ne false him]; exact hGv) hOut ?_
        intro j oj d hj hoj hlj hd
        rw [getD_set_ne false him]
        by_cases hji : j = i
        · subst hji
          have : oj = o := Option.some.inj (hoj.symm.trans ho')
          subst this
          have hds : d < a.tmps.size := by rw [hO.size]; exact hsz j oj d hj hoj hd
          rw [hd, slot_put_same hds]
          exact hDv
        · rw [getD_set_ne false (Ne.symm hji)] at hlj
          have hold := hDs _ j _ W W' (hD j oj d hj hoj hlj hd) hRv
          cases hdo : o.dst with
          | none => simpa [Act.put] using hold
          | some d' =>
            have hne : d ≠ d' := fun h => hdst' j i oj o d hj hin hji hoj ho' hd (by rw [hdo, h])
            rw [slot_put_other hne]
            exact hold
  have inv0 : HeadInv .any l.toArray n (Array.replicate l.toArray.size false) :=
    ⟨by simp, fun j oj _ hl => (by rw [getD_replicate_false] at hl; cases hl), fun t _ ht => getD_in (by simpa using ht) (getD_replicate_false _ _)⟩
  have := key n _ a₀ w inv0 (by
    have : ((List.range n).filter fun i => !(Array.replicate l.toArray.size false).getD i false) = List.range n := List.filter_eq_self.2 (fun i _ => by rw [getD_replicate_false]; rfl)
    rw [this, List.length_range]) (by rw [getD_replicate_false]; exact hG) ⟨rfl, rfl, fun _ _ => rfl⟩ (fun j oj d _ _ hl => by rw [getD_replicate_false] at hl; cases hl)
  rw [show n + (l.length - n) = l.toArray.size by simp; omega] at this
  exact this
/-- One operation of the head; a store (number m) may have come or not. -/
def stepU (P : Program) (l : List Oper) (n m : Nat) (Q : Exit → Act → World → Prop) (a₀ : Act) (G : Bool → World → Prop) (D : Bool → Nat → Value → World → Prop) (i : Nat) (o : Oper) : Prop :=
  match Nat.beq i m with
  | true => ∀ a W, G false W → Outer l n a₀ a → preds l (D false) a W o.after.toList → o.wp P a W (fun a' W' => ∃ v, a' = a.put o.dst v ∧ D true m v W' ∧ G true W' ∧ ∀ j, j ≠ m → ∀ u, D false j u W → D true j u W') Q
  | false => match predB l m i with
    | true => ∀ a W, G false W → Outer l n a₀ a → preds l (D false) a W o.after.toList → o.wp P a W (fun a' W' => ∃ v, a' = a.put o.dst v ∧ D false i v W' ∧ newer W W' ∧ G false W') Q
    | false => ∀ b a W, G b W → Outer l n a₀ a → preds l (D b) a W o.after.toList → o.wp P a W (fun a' W' => ∃ v, a' = a.put o.dst v ∧ D b i v W' ∧ newer W W' ∧ G b W') Q
def stepsU (P : Program) (l : List Oper) (n m : Nat) (Q : Exit → Act → World → Prop) (a₀ : Act) (G : Bool → World → Prop) (D : Bool → Nat → Value → World → Prop) : Nat → List Oper → Prop
  | _, [] => True
  | i, o :: os => stepU P l n m Q a₀ G D i o ∧ stepsU P l n m Q a₀ G D (i + 1) os
theorem stepsU_get {l : List Oper} {n m : Nat} {Q : Exit → Act → World → Prop} {a₀ : Act} {G : Bool → World → Prop} {D : Bool → Nat → Value → World → Prop} : ∀ (os : List Oper) (k : Nat), stepsU P l n m Q a₀ G D k os → ∀ i o, os[i]? = some o → stepU P l n m Q a₀ G D (k + i) o
  | [], _, _, i, o, h => by simp at h
  | x :: os, k, hs, 0, o, h => by simp at h; subst h; exact hs.1
  | x :: os, k, hs, i + 1, o, h => by
    have := stepsU_get os (k + 1) hs.2 i o (by simpa using h)
    rw [show k + (i + 1) = k + 1 + i by omega]
    exact this
/-- As region_told; m is an operation that turns memory: D false are the words ahead of it, D true behind it. -/
theorem region_turn {l : List Oper} (n m : Nat) {Q : Exit → Act → World → Prop} {a₀ : Act} {w : World} (hB : relB l n = true) (hz : szOk a₀.tmps.size (l.take n) = true) (hmn : m < n)
    (G : Bool → World → Prop) (D : Bool → Nat → Value → World → Prop) (hDs : ∀ b j v W W', D b j v W → newer W W' → D b j v W')
    (hG : G false w) (hstep : stepsU P l n m Q a₀ G D 0 (l.take n))
    (htail : ∀ W, G true W → tailsOk (D true) W (fun a => wpList P l.toArray Q (l.drop n) a W) 0 (l.take n) a₀) :
    wpAny P .any l.toArray Q l.toArray.size (Array.replicate l.toArray.size false) a₀ w := by
  have htake : ∀ (i : Nat) (o : Oper), i < n → l[i]? = some o → (l.take n)[i]? = some o := fun i o hi ho => by rw [List.getElem?_take, if_pos hi]; exact ho
  have hback : ∀ (i : Nat) (o : Oper), i < n → l[i]? = some o → ∀ e ∈ o.after, Region.binds .any e = true → e.on < n := by
    have hB' := hB
    simp only [relB, Bool.and_eq_true, decide_eq_true_eq] at hB'
    obtain ⟨⟨⟨⟨⟨_, _⟩, _⟩, hback⟩, _⟩, _⟩ := hB'
    intro i o hi ho e he hbd
    have := List.all_eq_true.1 hback i (List.mem_range.2 (List.getElem?_eq_some_iff.1 ho).1)
    simp only [ho, Bool.and_eq_true, Array.all_eq_true_iff_forall_mem] at this
    have h2 : e.on < i := by simpa [hbd] using this.1 e he
    omega
  refine region_turn_any hB m hmn G D hDs (fun i o d hi ho hd => sz_of _ hz i o d (htake i o hi ho) hd) hG ?_ ?_ ?_
  · intro i o hi him ho b hb a W hGW hO hp
    have h := stepsU_get _ _ hstep i o (htake i o hi ho)
    rw [Nat.zero_add] at h
    unfold stepU at h
    have hm : Nat.beq i m = false := by
      cases hq : Nat.beq i m with
      | false => rfl
      | true => exact absurd (Nat.eq_of_beq_eq_true hq) him
    rw [hm] at h
    cases hpb : predB l m i with
    | true =>
      rw [hpb] at h
      obtain rfl : b = false := hb (by
        unfold predB at hpb
        cases hom : l[m]? with
        | none => rw [hom] at hpb; cases hpb
        | some om =>
          rw [hom] at hpb
          obtain ⟨e, he, h2⟩ := List.any_eq_true.1 hpb
          rw [Bool.and_eq_true, decide_eq_true_eq] at h2
          exact ⟨om, rfl, e, by simpa using he, h2.1, h2.2⟩)
      exact h a W hGW hO (preds_of o (hback i o hi ho) hp)
    | false =>
      rw [hpb] at h
      exact h b a W hGW hO (preds_of o (hback i o hi ho) hp)
  · intro o ho a W hGW hO hp
    have h := stepsU_get _ _ hstep m o (htake m o hmn ho)
    rw [Nat.zero_add] at h
    unfold stepU at h
    have hm : Nat.beq m m = true := Nat.beq_refl m
    rw [hm] at h
    exact h a W hGW hO (preds_of o (hback m o hmn ho) hp)
  · intro a W hGW hO hd
    have hh : heads (D true) a W 0 (l.take n) := heads_of _ _ fun j oj d hj hdd => by
      rw [List.getElem?_take] at hj
      split at hj
      · rename_i hjn
        rw [Nat.zero_add]
        exact hd j oj d hjn hj hdd
      · cases hj
    have := tails_filled _ _ _ hh (htail W hGW)
    rwa [filled_eq hO] at this
end
end
section
section
open Go.RowKit
variable {P : Program}
theorem region_late_anyA {l : List Oper} {n : Nat} {Q : Exit → Act → World → Prop} {a₀ : Act} {w : World} (hB : relB l n = true) (m : Nat) (hmn : m < n) (hmd : ∀ o, l[m]? = some o → o.dst = none)
    (G : Act → World → Prop) (D : Bool → Nat → Value → World → Prop)
    (hDs : ∀ b j v W W', D b j v W → newer W W' → D b j v W')
    (hsz : ∀ i o d, i < n → l[i]? = some o → o.dst = some d → d < a₀.tmps.size)
    (hG : G a₀ w)
    (hstep : ∀ i o, i < n → i ≠ m → l[i]? = some o → ∀ b, ((∃ om, l[m]? = some om ∧ ∃ e ∈ om.after, Region.binds .any e = true ∧ e.on = i) → b = false) → ∀ a W, G a W → Outer l n a₀ a →
      (∀ j oj d, j < n → l[j]? = some oj → oj.dst = some d → (∃ e ∈ o.after, Region.binds .any e = true ∧ e.on = j) → D b j (slotOf a d) W) →
      o.wp P a W (fun a' W' => ∃ v, a' = a.put o.dst v ∧ D b i v W' ∧ newer W W' ∧ G a' W') Q)
    (hlate : ∀ o, l[m]? = some o → ∀ a W, G a W → Outer l n a₀ a →
      (∀ j oj d, j < n → l[j]? = some oj → oj.dst = some d → (∃ e ∈ o.after, Region.binds .any e = true ∧ e.on = j) → D false j (slotOf a d) W) →
      o.wp P a W (fun a' W' => a' = a ∧ G a W' ∧ ∀ j oj d, j < n → l[j]? = some oj → oj.dst = some d → D false j (slotOf a d) W → D true j (slotOf a d) W') Q)
    (htail : ∀ a W, G a W → Outer l n a₀ a → (∀ j oj d, j < n → l[j]? = some oj → oj.dst = some d → D true j (slotOf a d) W) → wpList P l.toArray Q (l.drop n) a W) :
    wpAny P .any l.toArray Q l.toArray.size (Array.replicate l.toArray.size false) a₀ w := by
  simp only [relB, Bool.and_eq_true, decide_eq_true_eq] at hB
  obtain ⟨⟨⟨⟨⟨hn, hs⟩, hc⟩, hback⟩, hdst⟩, hseq⟩ := hB
  have hback' : ∀ (i : Nat) (o : Oper), l[i]? = some o → (∀ e ∈ o.after, Region.binds .any e = true → e.on < i) ∧ o.guard = none := by
    intro i o ho
    have := List.all_eq_true.1 hback i (List.mem_range.2 (List.getElem?_eq_some_iff.1 ho).1)
    simp only [ho, Bool.and_eq_true, Array.all_eq_true_iff_forall_mem] at this
    exact ⟨fun e he hb => by simpa [hb] using this.1 e he, by simpa using this.2⟩
  have hdst' : ∀ (i j : Nat) (o o' : Oper) (d : Tmp), i < n → j < n → i ≠ j → l[i]? = some o → l[j]? = some o' → o.dst = some d → o'.dst ≠ some d := by
    intro i j o o' d hi hj hij ho ho' hd hd'
    have := List.all_eq_true.1 (List.all_eq_true.1 hdst i (List.mem_range.2 hi)) j (List.mem_range.2 hj)
    simp [hij, ho, ho', hd, hd'] at this
  have key : ∀ (f : Nat) (listed : Array Bool) (a : Act) (W : World), HeadInv .any l.toArray n listed → ((List.range n).filter fun i => !listed.getD i false).length = f →
      G a W → Outer l n a₀ a → (∀ (j : Nat) (oj : Oper) (d : Tmp), j < n → l[j]? = some oj → listed.getD j false = true → oj.dst = some d → D (listed.getD m false) j (slotOf a d) W) →
      wpAny P .any l.toArray Q (f + (l.length - n)) listed a W := by
    intro f
    induction f with
    | zero =>
      intro listed a W inv hcnt hGW hO hD
      have hall : ∀ i, i < n → listed.getD i false = true := by
        intro i hi
        have := List.eq_nil_of_length_eq_zero hcnt
        have h2 := List.filter_eq_nil_iff.1 this i (List.mem_range.2 hi)
        simpa using h2
      have hcanon : listed = headDone n l.length := by
        apply Array.ext
        · rw [inv.size]; simp [headDone]
        · intro i h1 h2
          have hi : i < l.length := by simpa [headDone] using h2
          simp only [headDone, Array.getElem_ofFn]
          by_cases hin : i < n
          · have := hall i hin
            simp [h1] at this
            simp [this, hin]
          · have := inv.tail i (by omega) (by simpa using hi)
            simp [h1] at this
            simp [this, hin]
      rw [Nat.zero_add]
      have := wpAny_of_seq (md := .any) (Q' := Q) (P := P) (ops := l.toArray) (l.drop n) n listed a W (fun j => by simp [List.getElem?_drop]) (by rw [List.length_drop, hcanon]; exact hseq) (htail a W hGW hO (fun j oj d hj ho hd => by have := hD j oj d hj ho (hall j hj) hd; rw [hall m hmn] at this; exact this))
      rwa [List.length_drop] at this
    | succ f ih =>
      intro listed a W inv hcnt hGW hO hD
      -- some operation of the head has not come up
      have hex : ∃ i, i < n ∧ listed.getD i false = false ∧ ∀ j, j < i → listed.getD j false = true := by
        have hne : ((List.range n).filter fun i => !listed.getD i false) ≠ [] := by intro h; rw [h] at hcnt; cases hcnt
        have : ∃ i, i < n ∧ listed.getD i false = false := by
          obtain ⟨x, hx⟩ := List.exists_mem_of_ne_nil _ hne
          have hx' := List.mem_filter.1 hx
          exact ⟨x, List.mem_range.1 hx'.1, by simpa using hx'.2⟩
        obtain ⟨i, hi, hl⟩ := this
        have : ∀ k i, i ≤ k → i < n → listed.getD i false = false → ∃ i, i < n ∧ listed.getD i false = false ∧ ∀ j, j < i → listed.getD j false = true := by
          intro k
          induction k with
          | zero => intro i hik hi hl; exact ⟨i, hi, hl, fun j hj => by omega⟩
          | succ k ihk =>
            intro i hik hi hl
            by_cases h : ∃ j, j < i ∧ listed.getD j false = false
            · obtain ⟨j, hj, hjl⟩ := h
              exact ihk j (by omega) (by omega) hjl
            · refine ⟨i, hi, hl, fun j hj => ?_⟩
              cases hh : listed.getD j false with
              | true => rfl
              | false => exact absurd ⟨j, hj, hh⟩ h
        exact this i i (Nat.le_refl _) hi hl
      obtain ⟨i₀, hi₀, hun₀, hbelow⟩ := hex
      have hi₀s : i₀ < listed.size := by rw [inv.size]; simp; omega
      have hl₀ : listed.getD i₀ true = false := getD_in hi₀s hun₀
      have hready₀ : i₀ ∈ Region.ready .any l.toArray listed := by
        have ho : l[i₀]? = some l[i₀] := List.getElem?_eq_getElem (by omega)
        refine mem_ready.2 ⟨hl₀, l[i₀], by simp, fun e he hb => hbelow _ ((hback' i₀ _ ho).1 e he hb)⟩
      rw [show f + 1 + (l.length - n) = f + (l.length - n) + 1 by omega]
      refine ⟨fun h => (by rw [h] at hready₀; cases hready₀), fun i hi => ?_⟩
      have hin : i < n := by
        rcases Nat.lt_or_ge i n with h | h
        · exact h
        · exact absurd hi (tail_waits hs hc (by simpa using hn) inv _ i₀ rfl hi₀ hl₀ i h)
      obtain ⟨hiun, o, ho, hall⟩ := mem_ready.1 hi
      have ho' : l[i]? = some o := by simpa using ho
      unfold wpOp
      simp only [ho]
      have hw : Region.wanted o (yielded l.toArray a.tmps) = true := by simp [Region.wanted, (hback' i o ho').2]
      rw [if_pos hw]
      have hiun' : listed.getD i false = false := getD_both hiun
      have his : i < listed.size := by rw [inv.size]; simp; omega
      have hcount : ((List.range n).filter fun j => !(listed.setIfInBounds i true).getD j false).length = f := by
        have e1 : ((List.range n).filter fun j => !(listed.setIfInBounds i true).getD j false) = ((List.range n).filter fun j => !listed.getD j false).filter (fun j => decide (j ≠ i)) := by
          rw [List.filter_filter]
          apply List.filter_congr
          intro j _
          by_cases hji : j = i
          · subst hji; simp [his]
          · rw [getD_set_ne false (Ne.symm hji)]; simp [hji]
        rw [e1]
        have hnd : ((List.range n).filter fun j => !listed.getD j false).Nodup := List.nodup_range.filter _
        have hmem : i ∈ ((List.range n).filter fun j => !listed.getD j false) := List.mem_filter.2 ⟨List.mem_range.2 hin, by simp [hiun']⟩
        have := filter_ne_length i _ hnd hmem
        omega
      by_cases him : i = m
      · subst him
        rw [hiun'] at hD
        have hdn := hmd o ho'
        have hst := hlate o ho' a W hGW hO (fun j oj d hj hoj hd ⟨e, he, hb, hon⟩ => hD j oj d hj hoj (by rw [← hon]; exact hall e he hb) hd)
        refine .inl (Oper.wp_mono ?_ hst)
        rintro a' W' ⟨rfl, hGv, hkeep⟩
        refine ih _ _ _ (inv.set hi hin) hcount hGv hO ?_
        intro j oj d hj hoj hlj hd
        have hmt : (listed.setIfInBounds i true).getD i false = true := by simp [his]
        rw [hmt]
        by_cases hji : j = i
        · subst hji
          rw [hoj] at ho'
          injection ho' with ho'
          subst ho'
          rw [hdn] at hd
          cases hd
        · rw [getD_set_ne false (Ne.symm hji)] at hlj
          exact hkeep j oj d hj hoj hd (hD j oj d hj hoj hlj hd)
      · have hst := hstep i o hin him ho' (listed.getD m false) (fun hp => by
          cases hm : listed.getD m false with
          | false => rfl
          | true =>
            obtain ⟨om, hom, hin2⟩ := hp
            have := inv.closed m om (by simpa using hom) hm
            obtain ⟨e, he, hb, hon⟩ := hin2
            have h2 := this e he hb
            rw [hon, hiun'] at h2
            cases h2) a W hGW hO (fun j oj d hj hoj hd ⟨e, he, hb, hon⟩ => hD j oj d hj hoj (by rw [← hon]; exact hall e he hb) hd)
        refine .inl (Oper.wp_mono ?_ hst)
        rintro a' W' ⟨v, rfl, hDv, hRv, hGv⟩
        have hOut : Outer l n a₀ (a.put o.dst v) := by
          refine ⟨?_, ?_, fun t ht => ?_⟩
          · cases hd : o.dst <;> simp [Act.put, hO.defers]
          · cases hd : o.dst <;> simp [Act.put, hO.size]
          · cases hd : o.dst with
            | none => simpa [Act.put] using hO.same t ht
            | some d =>
              have hne : d ≠ t := fun h => ht i o hin ho' (by rw [hd, h])
              simp only [Act.put]
              rw [Array.getElem?_setIfInBounds_ne hne]
              exact hO.same t ht
        refine ih _ _ _ (inv.set hi hin) hcount hGv hOut ?_
        intro j oj d hj hoj hlj hd
        rw [getD_set_ne false him]
        by_cases hji : j = i
        · subst hji
          have : oj = o := Option.some.inj (hoj.symm.trans ho')
          subst this
          have hds : d < a.tmps.size := by rw [hO.size]; exact hsz j oj d hj hoj hd
          rw [hd, slot_put_same hds]
          exact hDv
        · rw [getD_set_ne false (Ne.symm hji)] at hlj
          have hold := hDs _ j _ W W' (hD j oj d hj hoj hlj hd) hRv
          cases hdo : o.dst with
          | none => simpa [Act.put] using hold
          | some d' =>
            have hne : d ≠ d' := fun h => hdst' j i oj o d hj hin hji hoj ho' hd (by rw [hdo, h])
            rw [slot_put_other hne]
            exact hold
  have inv0 : HeadInv .any l.toArray n (Array.replicate l.toArray.size false) :=
    ⟨by simp, fun j oj _ hl => (by rw [getD_replicate_false] at hl; cases hl), fun t _ ht => getD_in (by simpa using ht) (getD_replicate_false _ _)⟩
  have := key n _ a₀ w inv0 (by
    have : ((List.range n).filter fun i => !(Array.replicate l.toArray.size false).getD i false) = List.range n := List.filter_eq_self.2 (fun i _ => by rw [getD_replicate_false]; rfl)
    rw [this, List.length_range]) hG ⟨rfl, rfl, fun _ _ => rfl⟩ (fun j oj d _ _ hl => by rw [getD_replicate_false] at hl; cases hl)
  rw [show n + (l.length - n) = l.toArray.size by simp; omega] at this
  exact this
/-- One operation of the head; a store (number m) may have come or not. -/
def stepLA (P : Program) (l : List Oper) (n m : Nat) (Q : Exit → Act → World → Prop) (a₀ : Act) (G : Act → World → Prop) (D : Bool → Nat → Value → World → Prop) (i : Nat) (o : Oper) : Prop :=
  match Nat.beq i m with
  | true => ∀ a W, G a W → Outer l n a₀ a → preds l (D false) a W o.after.toList → o.wp P a W (fun a' W' => a' = a ∧ G a W' ∧ ∀ j oj d, j < n → l[j]? = some oj → oj.dst = some d → D false j (slotOf a d) W → D true j (slotOf a d) W') Q
  | false => match predB l m i with
    | true => ∀ a W, G a W → Outer l n a₀ a → preds l (D false) a W o.after.toList → o.wp P a W (fun a' W' => ∃ v, a' = a.put o.dst v ∧ D false i v W' ∧ newer W W' ∧ G a' W') Q
    | false => ∀ b a W, G a W → Outer l n a₀ a → preds l (D b) a W o.after.toList → o.wp P a W (fun a' W' => ∃ v, a' = a.put o.dst v ∧ D b i v W' ∧ newer W W' ∧ G a' W') Q
def stepsLA (P : Program) (l : List Oper) (n m : Nat) (Q : Exit → Act → World → Prop) (a₀ : Act) (G : Act → World → Prop) (D : Bool → Nat → Value → World → Prop) : Nat → List Oper → Prop
  | _, [] => True
  | i, o :: os => stepLA P l n m Q a₀ G D i o ∧ stepsLA P l n m Q a₀ G D (i + 1) os
theorem stepsL_getA {l : List Oper} {n m : Nat} {Q : Exit → Act → World → Prop} {a₀ : Act} {G : Act → World → Prop} {D : Bool → Nat → Value → World → Prop} : ∀ (os : List Oper) (k : Nat), stepsLA P l n m Q a₀ G D k os → ∀ i o, os[i]? = some o → stepLA P l n m Q a₀ G D (k + i) o
  | [], _, _, i, o, h => by simp at h
  | x :: os, k, hs, 0, o, h => by simp at h; subst h; exact hs.1
  | x :: os, k, hs, i + 1, o, h => by
    have := stepsL_getA os (k + 1) hs.2 i o (by simpa using h)
    rw [show k + (i + 1) = k + 1 + i by omega]
    exact this
/-- As region_told; m is a store that some operations need not wait for: D false are the words ahead of it, D true behind it. -/
theorem region_lateA {l : List Oper} (n m : Nat) {Q : Exit → Act → World → Prop} {a₀ : Act} {w : World} (hB : relB l n = true) (hz : szOk a₀.tmps.size (l.take n) = true) (hmn : m < n) (hmd' : (match l[m]? with | some o => o.dst.isNone | none => true) = true)
    (G : Act → World → Prop) (D : Bool → Nat → Value → World → Prop) (hDs : ∀ b j v W W', D b j v W → newer W W' → D b j v W')
    (hG : G a₀ w) (hstep : stepsLA P l n m Q a₀ G D 0 (l.take n))
    (htail : ∀ W, tailsOk (D true) W (fun a => G a W → wpList P l.toArray Q (l.drop n) a W) 0 (l.take n) a₀) :
    wpAny P .any l.toArray Q l.toArray.size (Array.replicate l.toArray.size false) a₀ w := by
  have htake : ∀ (i : Nat) (o : Oper), i < n → l[i]? = some o → (l.take n)[i]? = some o := fun i o hi ho => by rw [List.getElem?_take, if_pos hi]; exact ho
  have hback : ∀ (i : Nat) (o : Oper), i < n → l[i]? = some o → ∀ e ∈ o.after, Region.binds .any e = true → e.on < n := by
    have hB' := hB
    simp only [relB, Bool.and_eq_true, decide_eq_true_eq] at hB'
    obtain ⟨⟨⟨⟨⟨_, _⟩, _⟩, hback⟩, _⟩, _⟩ := hB'
    intro i o hi ho e he hbd
    have := List.all_eq_true.1 hback i (List.mem_range.2 (List.getElem?_eq_some_iff.1 ho).1)
    simp only [ho, Bool.and_eq_true, Array.all_eq_true_iff_forall_mem] at this
    have h2 : e.on < i := by simpa [hbd] using this.1 e he
    omega
  have hmd : ∀ o, l[m]? = some o → o.dst = none := fun o ho => by
    rw [ho] at hmd'
    simpa using hmd'
  refine region_late_anyA hB m hmn hmd G D hDs (fun i o d hi ho hd => sz_of _ hz i o d (htake i o hi ho) hd) hG ?_ ?_ ?_
  · intro i o hi him ho b hb a W hGW hO hp
    have h := stepsL_getA _ _ hstep i o (htake i o hi ho)
    rw [Nat.zero_add] at h
    unfold stepLA at h
    have hm : Nat.beq i m = false := by
      cases hq : Nat.beq i m with
      | false => rfl
      | true => exact absurd (Nat.eq_of_beq_eq_true hq) him
    rw [hm] at h
    cases hpb : predB l m i with
    | true =>
      rw [hpb] at h
      obtain rfl : b = false := hb (by
        unfold predB at hpb
        cases hom : l[m]? with
        | none => rw [hom] at hpb; cases hpb
        | some om =>
          rw [hom] at hpb
          obtain ⟨e, he, h2⟩ := List.any_eq_true.1 hpb
          rw [Bool.and_eq_true, decide_eq_true_eq] at h2
          exact ⟨om, rfl, e, by simpa using he, h2.1, h2.2⟩)
      exact h a W hGW hO (preds_of o (hback i o hi ho) hp)
    | false =>
      rw [hpb] at h
      exact h b a W hGW hO (preds_of o (hback i o hi ho) hp)
  · intro o ho a W hGW hO hp
    have h := stepsL_getA _ _ hstep m o (htake m o hmn ho)
    rw [Nat.zero_add] at h
    unfold stepLA at h
    have hm : Nat.beq m m = true := Nat.beq_refl m
    rw [hm] at h
    exact h a W hGW hO (preds_of o (hback m o hmn ho) hp)
  · intro a W hGW hO hd
    have hh : heads (D true) a W 0 (l.take n) := heads_of _ _ fun j oj d hj hdd => by
      rw [List.getElem?_take] at hj
      split at hj
      · rename_i hjn
        rw [Nat.zero_add]
        exact hd j oj d hjn hj hdd
      · cases hj
    have := tails_filled _ _ _ hh (htail W)
    rw [filled_eq hO] at this
    exact this hGW
end
end
section
open Go.RowKit

theorem slotOf_other {a : Act} {p : Tmp} {d : Option Tmp} {v : Value} (h : d ≠ some p) : slotOf (a.put d v) p = slotOf a p := by
  cases d with
  | none => rfl
  | some d =>
    have h2 : d ≠ p := fun e => h (by rw [e])
    simp [slotOf, Act.put, h2]
theorem slotOf_own {a : Act} {p : Tmp} {v u : Value} (h : slotOf (a.put (some p) v) p = u) : u = v ∨ u = undef := by
  simp only [slotOf, Act.put, Array.getElem?_setIfInBounds] at h
  split at h
  · split at h
    · exact .inl h.symm
    · exact .inr h.symm
  · rename_i e
    exact absurd trivial e
/-- The two blocks that the slots p and q hold, where they are new, are apart. -/
structure Apart2 (w : World) (p q : Tmp) (a : Act) (W : World) : Prop where
  bl : Below w.heap.size w W
  p1 : ∀ g o, slotOf a p = .pointer (some ⟨g, o, none⟩) → w.heap.size ≤ g → g < W.heap.size
  q1 : ∀ g o, slotOf a q = .pointer (some ⟨g, o, none⟩) → w.heap.size ≤ g → g < W.heap.size
  ne : ∀ g o g' o', slotOf a p = .pointer (some ⟨g, o, none⟩) → slotOf a q = .pointer (some ⟨g', o', none⟩) → w.heap.size ≤ g → w.heap.size ≤ g' → g ≠ g'
theorem Apart2.put {w W W' : World} {p q : Tmp} {a : Act} (h : Apart2 w p q a W) (hb : newer W W') {d : Option Tmp} {v : Value} (hp : d ≠ some p) (hq : d ≠ some q) : Apart2 w p q (a.put d v) W' := by
  refine ⟨below_next h.bl hb, fun g o hg hl => ?_, fun g o hg hl => ?_, fun g o g' o' hg hg' => ?_⟩
  · rw [slotOf_other hp] at hg
    exact Nat.lt_of_lt_of_le (h.p1 g o hg hl) hb.size
  · rw [slotOf_other hq] at hg
    exact Nat.lt_of_lt_of_le (h.q1 g o hg hl) hb.size
  · rw [slotOf_other hp] at hg
    rw [slotOf_other hq] at hg'
    exact h.ne g o g' o' hg hg'
theorem Apart2.newP {w W : World} {p q : Tmp} {a : Act} (h : Apart2 w p q a W) (hpq : p ≠ q) (o : Obj) : Apart2 w p q (a.put (some p) (.pointer (some ⟨W.heap.size, 0, none⟩))) (W.alloc o) := by
  have hb := newer_allocH W o
  have hq : (some p : Option Tmp) ≠ some q := fun e => hpq (Option.some.inj e)
  refine ⟨below_next h.bl hb, fun g o hg hl => ?_, fun g o hg hl => ?_, fun g o g' o' hg hg' hl hl' => ?_⟩
  · rcases slotOf_own hg with e | e
    · injection e with e
      injection e with e
      injection e with e
      rw [World.size_alloc, e]
      omega
    · cases e
  · rw [slotOf_other hq] at hg
    have := h.q1 g o hg hl
    rw [World.size_alloc]
    omega
  · rw [slotOf_other hq] at hg'
    have h1 := h.q1 g' o' hg' hl'
    rcases slotOf_own hg with e | e
    · injection e with e
      injection e with e
      injection e with e
      omega
    · cases e
theorem Apart2.newQ {w W : World} {p q : Tmp} {a : Act} (h : Apart2 w p q a W) (hpq : p ≠ q) (o : Obj) : Apart2 w p q (a.put (some q) (.pointer (some ⟨W.heap.size, 0, none⟩))) (W.alloc o) := by
  have hb := newer_allocH W o
  have hp : (some q : Option Tmp) ≠ some p := fun e => hpq (Option.some.inj e).symm
  refine ⟨below_next h.bl hb, fun g o hg hl => ?_, fun g o hg hl => ?_, fun g o g' o' hg hg' hl hl' => ?_⟩
  · rw [slotOf_other hp] at hg
    have := h.p1 g o hg hl
    rw [World.size_alloc]
    omega
  · rcases slotOf_own hg with e | e
    · injection e with e
      injection e with e
      injection e with e
      rw [World.size_alloc, e]
      omega
    · cases e
  · rw [slotOf_other hp] at hg
    have h1 := h.p1 g o hg hl
    rcases slotOf_own hg' with e | e
    · injection e with e
      injection e with e
      injection e with e
      omega
    · cases e
theorem Apart2.step {w W W' : World} {p q : Tmp} {a : Act} (h : Apart2 w p q a W) (hb : Below w.heap.size w W') (hs : W.heap.size ≤ W'.heap.size) : Apart2 w p q a W' :=
  ⟨hb, fun g o hg hl => Nat.lt_of_lt_of_le (h.p1 g o hg hl) hs, fun g o hg hl => Nat.lt_of_lt_of_le (h.q1 g o hg hl) hs, h.ne⟩
theorem Apart2.start {w : World} {p q : Tmp} {a : Act} (hp : ∀ g o, slotOf a p = .pointer (some ⟨g, o, none⟩) → g < w.heap.size) (hq : ∀ g o, slotOf a q = .pointer (some ⟨g, o, none⟩) → g < w.heap.size) : Apart2 w p q a w.drew :=
  ⟨(Below.refl _ w).drew, fun g o hg _ => hp g o hg, fun g o hg _ => hq g o hg, fun g o _ _ hg _ hl => absurd (hp g o hg) (by omega)⟩
end
end Go.Proofs.Ytpmafnifgegfbaa
