/- A drawn region of which two operations, one behind the other, turn memory. -/
import Derived.Test.YtpmafnifgegfbaaGB
namespace Go.Proofs.Ytpmafnifgegfbaa
open Go.RowKit

section
variable {P : Program}
theorem region_full_any {l : List Oper} {n : Nat} {Q : Exit → Act → World → Prop} {a₀ : Act} {w : World} (hB : relB l n = true)
    (G : Array Bool → World → Prop) (Rl : Nat → World → World → Prop) (D : Array Bool → Nat → Value → World → Prop)
    (hDs : ∀ (listed : Array Bool) i j v W W', i < n → j ≠ i → listed.size = l.length → listed.getD i false = false → listed.getD j false = true → (∀ k, edgeB l i k = true → listed.getD k false = true) → (∀ j k, j < n → edgeB l j k = true → listed.getD j false = true → listed.getD k false = true) →
      D listed j v W → Rl i W W' → D (listed.setIfInBounds i true) j v W')
    (hsz : ∀ i o d, i < n → l[i]? = some o → o.dst = some d → d < a₀.tmps.size)
    (hG : G (Array.replicate l.toArray.size false) w)
    (hstep : ∀ i o, i < n → l[i]? = some o → ∀ (listed : Array Bool) a W, listed.size = l.length → listed.getD i true = false → (∀ k, edgeB l i k = true → listed.getD k false = true) → (∀ j k, j < n → edgeB l j k = true → listed.getD j false = true → listed.getD k false = true) → G listed W → Outer l n a₀ a → (∀ (j : Nat) (oj : Oper) (d : Tmp), j < n → l[j]? = some oj → oj.dst = some d → listed.getD j false = false → slotOf a d = slotOf a₀ d) →
      (∀ j oj d, j < n → l[j]? = some oj → oj.dst = some d → (∃ e ∈ o.after, Region.binds .any e = true ∧ e.on = j) → D listed j (slotOf a d) W) →
      o.wp P a W (fun a' W' => ∃ v, a' = a.put o.dst v ∧ D (listed.setIfInBounds i true) i v W' ∧ Rl i W W' ∧ G (listed.setIfInBounds i true) W') Q)
    (htail : ∀ (listed : Array Bool) a W, (∀ i, i < n → listed.getD i false = true) → G listed W → Outer l n a₀ a → (∀ j oj d, j < n → l[j]? = some oj → oj.dst = some d → D listed j (slotOf a d) W) → wpList P l.toArray Q (l.drop n) a W) :
    wpAny P .any l.toArray Q l.toArray.size (Array.replicate l.toArray.size false) a₀ w := by
  simp only [relB, Bool.and_eq_true, decide_eq_true_eq] at hB
  obtain ⟨⟨⟨⟨⟨hn, hs⟩, hc⟩, hback⟩, hdst⟩, hseq⟩ := hB
  have hback' : ∀ (i : Nat) (o : Oper), l[i]? = some o → (∀ e ∈ o.after, Region.binds .any e = true → e.on < i) ∧ o.guard = none := by
    intro i o ho
    have := List.all_eq_true.1 hback i (List.mem_range.2 (List.getElem?_eq_some_iff.1 ho).1)
    simp only [ho, Bool.and_eq_true, Array.all_eq_true_iff_forall_mem] at this
    exact ⟨fun e he hb => by simpa [hb] using this.1 e he, by simpa using this.2⟩
  have hdst' : ∀ (i j : Nat) (o o' : Oper) (d : Tmp), i < n → j < n → i ≠ j → l[i]? = some o → l[j]? = some o' → o.dst = some d → o'.dst ≠ some d := by
    intro i j o o' d hi hj hij ho ho' hd hd'
    have := List.all_eq_true.1 (List.all_eq_true.1 hdst i (List.mem_range.2 hi)) j (List.mem_range.2 hj)
    simp [hij, ho, ho', hd, hd'] at this
  have key : ∀ (f : Nat) (listed : Array Bool) (a : Act) (W : World), HeadInv .any l.toArray n listed → ((List.range n).filter fun i => !listed.getD i false).length = f →
      G listed W → Outer l n a₀ a → (∀ (j : Nat) (oj : Oper) (d : Tmp), j < n → l[j]? = some oj → oj.dst = some d → listed.getD j false = false → slotOf a d = slotOf a₀ d) → (∀ (j : Nat) (oj : Oper) (d : Tmp), j < n → l[j]? = some oj → listed.getD j false = true → oj.dst = some d → D listed j (slotOf a d) W) →
      wpAny P .any l.toArray Q (f + (l.length - n)) listed a W := by
    intro f
    induction f with
    | zero =>
      intro listed a W inv hcnt hGW hO hU hD
      have hall : ∀ i, i < n → listed.getD i false = true := by
        intro i hi
        have := List.eq_nil_of_length_eq_zero hcnt
        have h2 := List.filter_eq_nil_iff.1 this i (List.mem_range.2 hi)
        simpa using h2
      have hcanon : listed = headDone n l.length := by
        apply Array.ext
        · rw [inv.size]; simp [headDone]
        · intro i h1 h2
          have hi : i < l.length := by simpa [headDone] using h2
          simp only [headDone, Array.getElem_ofFn]
          by_cases hin : i < n
          · have := hall i hin
            simp [h1] at this
            simp [this, hin]
          · have := inv.tail i (by omega) (by simpa using hi)
            simp [h1] at this
            simp [this, hin]
      rw [Nat.zero_add]
      have := wpAny_of_seq (md := .any) (Q' := Q) (P := P) (ops := l.toArray) (l.drop n) n listed a W (fun j => by simp [List.getElem?_drop]) (by rw [List.length_drop, hcanon]; exact hseq) (htail listed a W hall hGW hO (fun j oj d hj ho hd => hD j oj d hj ho (hall j hj) hd))
      rwa [List.length_drop] at this
    | succ f ih =>
      intro listed a W inv hcnt hGW hO hU hD
      -- some operation of the head has not come up
      have hex : ∃ i, i < n ∧ listed.getD i false = false ∧ ∀ j, j < i → listed.getD j false = true := by
        have hne : ((List.range n).filter fun i => !listed.getD i false) ≠ [] := by intro h; rw [h] at hcnt; cases hcnt
        have : ∃ i, i < n ∧ listed.getD i false = false := by
          obtain ⟨x, hx⟩ := List.exists_mem_of_ne_nil _ hne
          have hx' := List.mem_filter.1 hx
          exact ⟨x, List.mem_range.1 hx'.1, by simpa using hx'.2⟩
        obtain ⟨i, hi, hl⟩ := this
        have : ∀ k i, i ≤ k → i < n → listed.getD i false = false → ∃ i, i < n ∧ listed.getD i false = false ∧ ∀ j, j < i → listed.getD j false = true := by
          intro k
          induction k with
          | zero => intro i hik hi hl; exact ⟨i, hi, hl, fun j hj => by omega⟩
          | succ k ihk =>
            intro i hik hi hl
            by_cases h : ∃ j, j < i ∧ listed.getD j false = false
            · obtain ⟨j, hj, hjl⟩ := h
              exact ihk j (by omega) (by omega) hjl
            · refine ⟨i, hi, hl, fun j hj => ?_⟩
              cases hh : listed.getD j false with
              | true => rfl
              | false => exact absurd ⟨j, hj, hh⟩ h
        exact this i i (Nat.le_refl _) hi hl
      obtain ⟨i₀, hi₀, hun₀, hbelow⟩ := hex
      have hi₀s : i₀ < listed.size := by rw [inv.size]; simp; omega
      have hl₀ : listed.getD i₀ true = false := getD_in hi₀s hun₀
      have hready₀ : i₀ ∈ Region.ready .any l.toArray listed := by
        have ho : l[i₀]? = some l[i₀] := List.getElem?_eq_getElem (by omega)
        refine mem_ready.2 ⟨hl₀, l[i₀], by simp, fun e he hb => hbelow _ ((hback' i₀ _ ho).1 e he hb)⟩
      rw [show f + 1 + (l.length - n) = f + (l.length - n) + 1 by omega]
      refine ⟨fun h => (by rw [h] at hready₀; cases hready₀), fun i hi => ?_⟩
      have hin : i < n := by
        rcases Nat.lt_or_ge i n with h | h
        · exact h
        · exact absurd hi (tail_waits hs hc (by simpa using hn) inv _ i₀ rfl hi₀ hl₀ i h)
      obtain ⟨hiun, o, ho, hall⟩ := mem_ready.1 hi
      have ho' : l[i]? = some o := by simpa using ho
      have hst := hstep i o hin ho' listed a W (by rw [inv.size]; simp) hiun (fun k hk => by
            obtain ⟨o2, ho2, e, he, hb, hon⟩ := edge_of hk
            rw [ho'] at ho2
            cases ho2
            rw [← hon]
            exact hall e he hb) (fun j2 k hj2 hk hl2 => by
            obtain ⟨o2, ho2, e, he, hb, hon⟩ := edge_of hk
            rw [← hon]
            exact inv.closed j2 o2 (by simpa using ho2) hl2 e he hb) hGW hO hU (fun j oj d hj hoj hd ⟨e, he, hb, hon⟩ => hD j oj d hj hoj (by rw [← hon]; exact hall e he hb) hd)
      unfold wpOp
      simp only [ho]
      have hw : Region.wanted o (yielded l.toArray a.tmps) = true := by simp [Region.wanted, (hback' i o ho').2]
      rw [if_pos hw]
      refine .inl (Oper.wp_mono ?_ hst)
      rintro a' W' ⟨v, rfl, hDv, hRv, hGv⟩
      have hOut : Outer l n a₀ (a.put o.dst v) := by
        refine ⟨?_, ?_, fun t ht => ?_⟩
        · cases hd : o.dst <;> simp [Act.put, hO.defers]
        · cases hd : o.dst <;> simp [Act.put, hO.size]
        · cases hd : o.dst with
          | none => simpa [Act.put] using hO.same t ht
          | some d =>
            have hne : d ≠ t := fun h => ht i o hin ho' (by rw [hd, h])
            simp only [Act.put]
            rw [Array.getElem?_setIfInBounds_ne hne]
            exact hO.same t ht
      refine ih _ _ _ (inv.set hi hin) ?_ hGv hOut ?_ ?_
      · have hiun' : listed.getD i false = false := getD_both hiun
        have his : i < listed.size := by rw [inv.size]; simp; omega
        have e1 : ((List.range n).filter fun j => !(listed.setIfInBounds i true).getD j false) = ((List.range n).filter fun j => !listed.getD j false).filter (fun j => decide (j ≠ i)) := by
          rw [List.filter_filter]
          apply List.filter_congr
          intro j _
          by_cases hji : j = i
          · subst hji; simp [his]
          · rw [getD_set_ne false (Ne.symm hji)]; simp [hji]
        rw [e1]
        have hnd : ((List.range n).filter fun j => !listed.getD j false).Nodup := List.nodup_range.filter _
        have hmem : i ∈ ((List.range n).filter fun j => !listed.getD j false) := List.mem_filter.2 ⟨List.mem_range.2 hin, by simp [hiun']⟩
        have := filter_ne_length i _ hnd hmem
        omega
      · intro j oj d hj hoj hd hlj
        have his : i < listed.size := by rw [inv.size]; simp; omega
        by_cases hji : j = i
        · subst hji
          simp [his] at hlj
        · rw [getD_set_ne false (Ne.symm hji)] at hlj
          rw [← hU j oj d hj hoj hd hlj]
          cases hdo : o.dst with
          | none => simp [Act.put]
          | some d' =>
            have hne : d ≠ d' := fun h => hdst' j i oj o d hj hin hji hoj ho' hd (by rw [hdo, h])
            rw [slot_put_other hne]
      · intro j oj d hj hoj hlj hd
        by_cases hji : j = i
        · subst hji
          have : oj = o := Option.some.inj (hoj.symm.trans ho')
          subst this
          have hds : d < a.tmps.size := by rw [hO.size]; exact hsz j oj d hj hoj hd
          rw [hd, slot_put_same hds]
          exact hDv
        · rw [getD_set_ne false (Ne.symm hji)] at hlj
          have hold := hDs listed i j _ W W' hin hji (by rw [inv.size]; simp) (getD_both hiun) hlj (fun k hk => by
            obtain ⟨o2, ho2, e, he, hb, hon⟩ := edge_of hk
            rw [ho'] at ho2
            cases ho2
            rw [← hon]
            exact hall e he hb) (fun j2 k hj2 hk hl2 => by
            obtain ⟨o2, ho2, e, he, hb, hon⟩ := edge_of hk
            rw [← hon]
            exact inv.closed j2 o2 (by simpa using ho2) hl2 e he hb) (hD j oj d hj hoj hlj hd) hRv
          cases hdo : o.dst with
          | none => simpa [Act.put] using hold
          | some d' =>
            have hne : d ≠ d' := fun h => hdst' j i oj o d hj hin hji hoj ho' hd (by rw [hdo, h])
            rw [slot_put_other hne]
            exact hold
  have inv0 : HeadInv .any l.toArray n (Array.replicate l.toArray.size false) :=
    ⟨by simp, fun j oj _ hl => (by rw [getD_replicate_false] at hl; cases hl), fun t _ ht => getD_in (by simpa using ht) (getD_replicate_false _ _)⟩
  have := key n _ a₀ w inv0 (by
    have : ((List.range n).filter fun i => !(Array.replicate l.toArray.size false).getD i false) = List.range n := List.filter_eq_self.2 (fun i _ => by rw [getD_replicate_false]; rfl)
    rw [this, List.length_range]) hG ⟨rfl, rfl, fun _ _ => rfl⟩ (fun _ _ _ _ _ _ _ => rfl) (fun j oj d _ _ hl => by rw [getD_replicate_false] at hl; cases hl)
  rw [show n + (l.length - n) = l.toArray.size by simp; omega] at this
  exact this

theorem region_steps {l : List Oper} (n p q : Nat) {Q : Exit → Act → World → Prop} {a₀ : Act} {w : World} (hB : relB l n = true) (hz : szOk a₀.tmps.size (l.take n) = true) (hqp : edgeB l q p = true) (hp : p < n) (hq : q < n) (hpq : p ≠ q)
    (G : Nat → World → Prop) (Rp Rq : World → World → Prop) (D : Nat → Value → World → Prop)
    (hn : ∀ j v W W', D j v W → newer W W' → D j v W') (hGn : ∀ s W W', G s W → newer W W' → G s W')
    (hDp : ∀ j v W W', j ≠ p → D j v W → Rp W W' → D j v W') (hDq : ∀ j v W W', j ≠ q → D j v W → Rq W W' → D j v W')
    (hG : G 0 w) (hstep : stepsT P l n p q Q a₀ G Rp Rq D 0 (l.take n))
    (htail : ∀ W, G 2 W → tailsOk D W (fun a => wpList P l.toArray Q (l.drop n) a W) 0 (l.take n) a₀) :
    wpAny P .any l.toArray Q l.toArray.size (Array.replicate l.toArray.size false) a₀ w := by
  have htake : ∀ (i : Nat) (o : Oper), i < n → l[i]? = some o → (l.take n)[i]? = some o := fun i o hi ho => by rw [List.getElem?_take, if_pos hi]; exact ho
  have hnl : n < l.length := by
    have hB' := hB
    simp only [relB, Bool.and_eq_true, decide_eq_true_eq] at hB'
    omega
  have hback : ∀ (i : Nat) (o : Oper), i < n → l[i]? = some o → ∀ e ∈ o.after, Region.binds .any e = true → e.on < n := by
    have hB' := hB
    simp only [relB, Bool.and_eq_true, decide_eq_true_eq] at hB'
    obtain ⟨⟨⟨⟨⟨_, _⟩, _⟩, hback⟩, _⟩, _⟩ := hB'
    intro i o hi ho e he hbd
    have := List.all_eq_true.1 hback i (List.mem_range.2 (List.getElem?_eq_some_iff.1 ho).1)
    simp only [ho, Bool.and_eq_true, Array.all_eq_true_iff_forall_mem] at this
    have h2 : e.on < i := by simpa [hbd] using this.1 e he
    omega
  refine region_full_any hB (fun listed W => G (stageN p q listed) W) (fun i => if i = p then Rp else if i = q then Rq else newer) (fun _ => D) ?_ (fun i o d hi ho hd => sz_of _ hz i o d (htake i o hi ho) hd) ?_ ?_ ?_
  · intro listed i j v W W' hi hji hsz hui hlj hpi hcl hD hR
    split at hR
    · exact hDp j v W W' (by omega) hD hR
    · split at hR
      · exact hDq j v W W' (by omega) hD hR
      · exact hn j v W W' hD hR
  · have e : stageN p q (Array.replicate l.toArray.size false) = 0 := by
      unfold stageN
      rw [getD_replicate_false]
    rw [e]
    exact hG
  · intro i o hi ho listed a W hsz hun hrd hcl hGW hO _ hpr
    have hst := stepsT_get _ _ hstep i o (htake i o hi ho)
    rw [Nat.zero_add] at hst
    have hpr' := preds_of o (hback i o hi ho) hpr
    have hun' : listed.getD i false = false := getD_both hun
    have hset : ∀ k, k < n → (listed.setIfInBounds k true).getD k false = true := fun k hk => by
      have : k < listed.size := by rw [hsz]; omega
      simp [this]
    unfold stepT at hst
    rw [beq_is, beq_is] at hst
    by_cases hip : i = p
    · subst hip
      rw [decide_eq_true rfl] at hst
      have hq0 : listed.getD q false = false := by
        cases hh : listed.getD q false with
        | false => rfl
        | true => rw [hcl q i hq hqp hh] at hun'; cases hun'
      have e0 : stageN i q listed = 0 := by unfold stageN; rw [hun']
      rw [e0] at hGW
      refine Oper.wp_mono ?_ (hst a W hGW hO hpr')
      rintro a' W' ⟨v, h1, h2, h3, h4⟩
      refine ⟨v, h1, h2, by rw [if_pos rfl]; exact h3, ?_⟩
      have e1 : stageN i q (listed.setIfInBounds i true) = 1 := by
        unfold stageN
        rw [hset i hp, getD_set_ne false hpq, hq0]
      rw [e1]
      exact h4
    · rw [decide_eq_false hip] at hst
      by_cases hiq : i = q
      · subst hiq
        rw [decide_eq_true rfl] at hst
        have hp1 := hrd p hqp
        have e0 : stageN p i listed = 1 := by unfold stageN; rw [hp1, hun']
        rw [e0] at hGW
        refine Oper.wp_mono ?_ (hst a W hGW hO hpr')
        rintro a' W' ⟨v, h1, h2, h3, h4⟩
        refine ⟨v, h1, h2, by rw [if_neg hip, if_pos rfl]; exact h3, ?_⟩
        have e1 : stageN p i (listed.setIfInBounds i true) = 2 := by
          unfold stageN
          rw [hset i hq, getD_set_ne false hip, hp1]
        rw [e1]
        exact h4
      · rw [decide_eq_false hiq] at hst
        have e1 : stageN p q (listed.setIfInBounds i true) = stageN p q listed := by
          unfold stageN
          rw [getD_set_ne false hip, getD_set_ne false hiq]
        have fin : ∀ a' W', (∃ v, a' = a.put o.dst v ∧ D i v W' ∧ newer W W') → ∃ v, a' = a.put o.dst v ∧ D i v W' ∧ (if i = p then Rp else if i = q then Rq else newer) W W' ∧ G (stageN p q (listed.setIfInBounds i true)) W' := by
          rintro a' W' ⟨v, h1, h2, h3⟩
          refine ⟨v, h1, h2, by rw [if_neg hip, if_neg hiq]; exact h3, ?_⟩
          rw [e1]
          exact hGn _ _ _ hGW h3
        have np : edgeB l p i = true → listed.getD p false = false := fun he => by
          cases hh : listed.getD p false with
          | false => rfl
          | true => rw [hcl p i hp he hh] at hun'; cases hun'
        have nq : edgeB l q i = true → listed.getD q false = false := fun he => by
          cases hh : listed.getD q false with
          | false => rfl
          | true => rw [hcl q i hq he hh] at hun'; cases hun'
        cases hep : edgeB l p i with
        | true =>
          rw [hep] at hst
          have e0 : stageN p q listed = 0 := by unfold stageN; rw [np hep]
          rw [e0] at hGW
          exact Oper.wp_mono fin (hst a W hGW hO hpr')
        | false =>
          rw [hep] at hst
          cases heq : edgeB l q i with
          | true =>
            rw [heq] at hst
            have e0 : stageN p q listed ≤ 1 := by
              unfold stageN
              rw [nq heq]
              cases listed.getD p false <;> simp
            exact Oper.wp_mono fin (hst _ a W e0 hGW hO hpr')
          | false =>
            rw [heq] at hst
            exact Oper.wp_mono fin (hst _ a W hGW hO hpr')
  · intro listed a W hall hGW hO hd
    have e0 : stageN p q listed = 2 := by unfold stageN; rw [hall p hp, hall q hq]
    rw [e0] at hGW
    have hh : heads D a W 0 (l.take n) := heads_of _ _ fun j oj d hj hdd => by
      rw [List.getElem?_take] at hj
      split at hj
      · rename_i hjn
        rw [Nat.zero_add]
        exact hd j oj d hjn hj hdd
      · cases hj
    have := tails_filled _ _ _ hh (htail W hGW)
    rwa [filled_eq hO] at this
end

end Go.Proofs.Ytpmafnifgegfbaa
