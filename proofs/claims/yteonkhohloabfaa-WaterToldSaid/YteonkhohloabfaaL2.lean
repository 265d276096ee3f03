/- A region that draws its order, by words; two of its values are told apart: what the later one of them makes is new. -/
import Derived.Test.YteonkhohloabfaaL
namespace Go.Proofs.Yteonkhohloabfaa
open Go.RowKit
variable {P : Program}

theorem region_pair_any {l : List Oper} {n : Nat} {Q : Exit → Act → World → Prop} {a₀ : Act} {w : World} (hB : relB l n = true)
    (G : Array Bool → World → Prop) (Rl : Nat → World → World → Prop) (D : Nat → Value → World → Prop) (p q dp dq : Nat) (E : Value → Value → Prop)
    (hpq : p ≠ q) (hpd : ∀ o, l[p]? = some o → o.dst = some dp) (hqd : ∀ o, l[q]? = some o → o.dst = some dq) (hpn : p < n) (hqn : q < n)
    (hDs : ∀ i j v W W', i < n → j ≠ i → D j v W → Rl i W W' → D j v W')
    (hsz : ∀ i o d, i < n → l[i]? = some o → o.dst = some d → d < a₀.tmps.size)
    (hG : G (Array.replicate l.toArray.size false) w)
    (hstep : ∀ i o, i < n → l[i]? = some o → ∀ (listed : Array Bool) a W, listed.size = l.length → listed.getD i true = false → G listed W → Outer l n a₀ a →
      (∀ j oj d, j < n → l[j]? = some oj → oj.dst = some d → (∃ e ∈ o.after, Region.binds .any e = true ∧ e.on = j) → D j (slotOf a d) W) →
      o.wp P a W (fun a' W' => ∃ v, a' = a.put o.dst v ∧ D i v W' ∧ Rl i W W' ∧ G (listed.setIfInBounds i true) W' ∧ (i = p → ∀ v', D q v' W → E v v') ∧ (i = q → ∀ v', D p v' W → E v' v)) Q)
    (htail : ∀ (listed : Array Bool) a W, G listed W → Outer l n a₀ a → E (slotOf a dp) (slotOf a dq) → (∀ j oj d, j < n → l[j]? = some oj → oj.dst = some d → D j (slotOf a d) W) → wpList P l.toArray Q (l.drop n) a W) :
    wpAny P .any l.toArray Q l.toArray.size (Array.replicate l.toArray.size false) a₀ w := by
  simp only [relB, Bool.and_eq_true, decide_eq_true_eq] at hB
  obtain ⟨⟨⟨⟨⟨hn, hs⟩, hc⟩, hback⟩, hdst⟩, hseq⟩ := hB
  have hback' : ∀ (i : Nat) (o : Oper), l[i]? = some o → (∀ e ∈ o.after, Region.binds .any e = true → e.on < i) ∧ o.guard = none := by
    intro i o ho
    have := List.all_eq_true.1 hback i (List.mem_range.2 (List.getElem?_eq_some_iff.1 ho).1)
    simp only [ho, Bool.and_eq_true, Array.all_eq_true_iff_forall_mem] at this
    exact ⟨fun e he hb => by simpa [hb] using this.1 e he, by simpa using this.2⟩
  have hdst' : ∀ (i j : Nat) (o o' : Oper) (d : Tmp), i < n → j < n → i ≠ j → l[i]? = some o → l[j]? = some o' → o.dst = some d → o'.dst ≠ some d := by
    intro i j o o' d hi hj hij ho ho' hd hd'
    have := List.all_eq_true.1 (List.all_eq_true.1 hdst i (List.mem_range.2 hi)) j (List.mem_range.2 hj)
    simp [hij, ho, ho', hd, hd'] at this
  have key : ∀ (f : Nat) (listed : Array Bool) (a : Act) (W : World), HeadInv .any l.toArray n listed → ((List.range n).filter fun i => !listed.getD i false).length = f →
      G listed W → Outer l n a₀ a → (∀ (j : Nat) (oj : Oper) (d : Tmp), j < n → l[j]? = some oj → listed.getD j false = true → oj.dst = some d → D j (slotOf a d) W) → (listed.getD p false = true → listed.getD q false = true → E (slotOf a dp) (slotOf a dq)) →
      wpAny P .any l.toArray Q (f + (l.length - n)) listed a W := by
    intro f
    induction f with
    | zero =>
      intro listed a W inv hcnt hGW hO hD hE
      have hall : ∀ i, i < n → listed.getD i false = true := by
        intro i hi
        have := List.eq_nil_of_length_eq_zero hcnt
        have h2 := List.filter_eq_nil_iff.1 this i (List.mem_range.2 hi)
        simpa using h2
      have hcanon : listed = headDone n l.length := by
        apply Array.ext
        · rw [inv.size]; simp [headDone]
        · intro i h1 h2
          have hi : i < l.length := by simpa [headDone] using h2
          simp only [headDone, Array.getElem_ofFn]
          by_cases hin : i < n
          · have := hall i hin
            simp [h1] at this
            simp [this, hin]
          · have := inv.tail i (by omega) (by simpa using hi)
            simp [h1] at this
            simp [this, hin]
      rw [Nat.zero_add]
      have := wpAny_of_seq (md := .any) (Q' := Q) (P := P) (ops := l.toArray) (l.drop n) n listed a W (fun j => by simp [List.getElem?_drop]) (by rw [List.length_drop, hcanon]; exact hseq) (htail listed a W hGW hO (hE (hall p hpn) (hall q hqn)) (fun j oj d hj ho hd => hD j oj d hj ho (hall j hj) hd))
      rwa [List.length_drop] at this
    | succ f ih =>
      intro listed a W inv hcnt hGW hO hD hE
      -- some operation of the head has not come up
      have hex : ∃ i, i < n ∧ listed.getD i false = false ∧ ∀ j, j < i → listed.getD j false = true := by
        have hne : ((List.range n).filter fun i => !listed.getD i false) ≠ [] := by intro h; rw [h] at hcnt; cases hcnt
        have : ∃ i, i < n ∧ listed.getD i false = false := by
          obtain ⟨x, hx⟩ := List.exists_mem_of_ne_nil _ hne
          have hx' := List.mem_filter.1 hx
          exact ⟨x, List.mem_range.1 hx'.1, by simpa using hx'.2⟩
        obtain ⟨i, hi, hl⟩ := this
        have : ∀ k i, i ≤ k → i < n → listed.getD i false = false → ∃ i, i < n ∧ listed.getD i false = false ∧ ∀ j, j < i → listed.getD j false = true := by
          intro k
          induction k with
          | zero => intro i hik hi hl; exact ⟨i, hi, hl, fun j hj => by omega⟩
          | succ k ihk =>
            intro i hik hi hl
            by_cases h : ∃ j, j < i ∧ listed.getD j false = false
            · obtain ⟨j, hj, hjl⟩ := h
              exact ihk j (by omega) (by omega) hjl
            · refine ⟨i, hi, hl, fun j hj => ?_⟩
              cases hh : listed.getD j false with
              | true => rfl
              | false => exact absurd ⟨j, hj, hh⟩ h
        exact this i i (Nat.le_refl _) hi hl
      obtain ⟨i₀, hi₀, hun₀, hbelow⟩ := hex
      have hi₀s : i₀ < listed.size := by rw [inv.size]; simp; omega
      have hl₀ : listed.getD i₀ true = false := getD_in hi₀s hun₀
      have hready₀ : i₀ ∈ Region.ready .any l.toArray listed := by
        have ho : l[i₀]? = some l[i₀] := List.getElem?_eq_getElem (by omega)
        refine mem_ready.2 ⟨hl₀, l[i₀], by simp, fun e he hb => hbelow _ ((hback' i₀ _ ho).1 e he hb)⟩
      rw [show f + 1 + (l.length - n) = f + (l.length - n) + 1 by omega]
      refine ⟨fun h => (by rw [h] at hready₀; cases hready₀), fun i hi => ?_⟩
      have hin : i < n := by
        rcases Nat.lt_or_ge i n with h | h
        · exact h
        · exact absurd hi (tail_waits hs hc (by simpa using hn) inv _ i₀ rfl hi₀ hl₀ i h)
      obtain ⟨hiun, o, ho, hall⟩ := mem_ready.1 hi
      have ho' : l[i]? = some o := by simpa using ho
      have hst := hstep i o hin ho' listed a W (by rw [inv.size]; simp) hiun hGW hO (fun j oj d hj hoj hd ⟨e, he, hb, hon⟩ => hD j oj d hj hoj (by rw [← hon]; exact hall e he hb) hd)
      unfold wpOp
      simp only [ho]
      have hw : Region.wanted o (yielded l.toArray a.tmps) = true := by simp [Region.wanted, (hback' i o ho').2]
      rw [if_pos hw]
      refine .inl (Oper.wp_mono ?_ hst)
      rintro a' W' ⟨v, rfl, hDv, hRv, hGv, hEp, hEq⟩
      have hOut : Outer l n a₀ (a.put o.dst v) := by
        refine ⟨?_, ?_, fun t ht => ?_⟩
        · cases hd : o.dst <;> simp [Act.put, hO.defers]
        · cases hd : o.dst <;> simp [Act.put, hO.size]
        · cases hd : o.dst with
          | none => simpa [Act.put] using hO.same t ht
          | some d =>
            have hne : d ≠ t := fun h => ht i o hin ho' (by rw [hd, h])
            simp only [Act.put]
            rw [Array.getElem?_setIfInBounds_ne hne]
            exact hO.same t ht
      refine ih _ _ _ (inv.set hi hin) ?_ hGv hOut ?_ ?_
      · have hiun' : listed.getD i false = false := getD_both hiun
        have his : i < listed.size := by rw [inv.size]; simp; omega
        have e1 : ((List.range n).filter fun j => !(listed.setIfInBounds i true).getD j false) = ((List.range n).filter fun j => !listed.getD j false).filter (fun j => decide (j ≠ i)) := by
          rw [List.filter_filter]
          apply List.filter_congr
          intro j _
          by_cases hji : j = i
          · subst hji; simp [his]
          · rw [getD_set_ne false (Ne.symm hji)]; simp [hji]
        rw [e1]
        have hnd : ((List.range n).filter fun j => !listed.getD j false).Nodup := List.nodup_range.filter _
        have hmem : i ∈ ((List.range n).filter fun j => !listed.getD j false) := List.mem_filter.2 ⟨List.mem_range.2 hin, by simp [hiun']⟩
        have := filter_ne_length i _ hnd hmem
        omega
      · intro j oj d hj hoj hlj hd
        by_cases hji : j = i
        · subst hji
          have : oj = o := Option.some.inj (hoj.symm.trans ho')
          subst this
          have hds : d < a.tmps.size := by rw [hO.size]; exact hsz j oj d hj hoj hd
          rw [hd, slot_put_same hds]
          exact hDv
        · rw [getD_set_ne false (Ne.symm hji)] at hlj
          have hold := hDs i j _ W W' hin hji (hD j oj d hj hoj hlj hd) hRv
          cases hdo : o.dst with
          | none => simpa [Act.put] using hold
          | some d' =>
            have hne : d ≠ d' := fun h => hdst' j i oj o d hj hin hji hoj ho' hd (by rw [hdo, h])
            rw [slot_put_other hne]
            exact hold
      · intro hlp hlq
        have hop : l[p]? = some l[p] := List.getElem?_eq_getElem (by omega)
        have hoq : l[q]? = some l[q] := List.getElem?_eq_getElem (by omega)
        have hdp := hpd _ hop
        have hdq := hqd _ hoq
        by_cases hip : i = p
        · subst hip
          have : l[i] = o := Option.some.inj (hop.symm.trans ho')
          rw [this] at hdp
          rw [getD_set_ne false hpq] at hlq
          have hds : dp < a.tmps.size := by rw [hO.size]; exact hsz i o dp hin ho' hdp
          have hne : dq ≠ dp := fun h => hdst' q i _ o dq hqn hin (Ne.symm hpq) hoq ho' hdq (by rw [hdp, h])
          rw [hdp, slot_put_same hds, slot_put_other hne]
          exact hEp rfl _ (hD q _ dq hqn hoq hlq hdq)
        · by_cases hiq : i = q
          · subst hiq
            have : l[i] = o := Option.some.inj (hoq.symm.trans ho')
            rw [this] at hdq
            rw [getD_set_ne false (Ne.symm hpq)] at hlp
            have hds : dq < a.tmps.size := by rw [hO.size]; exact hsz i o dq hin ho' hdq
            have hne : dp ≠ dq := fun h => hdst' p i _ o dp hpn hin hpq hop ho' hdp (by rw [hdq, h])
            rw [hdq, slot_put_same hds, slot_put_other hne]
            exact hEq rfl _ (hD p _ dp hpn hop hlp hdp)
          · rw [getD_set_ne false hip] at hlp
            rw [getD_set_ne false hiq] at hlq
            have hold := hE hlp hlq
            cases hdo : o.dst with
            | none => simpa [Act.put] using hold
            | some d' =>
              have hn1 : dp ≠ d' := fun h => hdst' p i _ o dp hpn hin (Ne.symm hip) hop ho' hdp (by rw [hdo, h])
              have hn2 : dq ≠ d' := fun h => hdst' q i _ o dq hqn hin (Ne.symm hiq) hoq ho' hdq (by rw [hdo, h])
              rw [slot_put_other hn1, slot_put_other hn2]
              exact hold
  have inv0 : HeadInv .any l.toArray n (Array.replicate l.toArray.size false) :=
    ⟨by simp, fun j oj _ hl => (by rw [getD_replicate_false] at hl; cases hl), fun t _ ht => getD_in (by simpa using ht) (getD_replicate_false _ _)⟩
  have := key n _ a₀ w inv0 (by
    have : ((List.range n).filter fun i => !(Array.replicate l.toArray.size false).getD i false) = List.range n := List.filter_eq_self.2 (fun i _ => by rw [getD_replicate_false]; rfl)
    rw [this, List.length_range]) hG ⟨rfl, rfl, fun _ _ => rfl⟩ (fun j oj d _ _ hl => by rw [getD_replicate_false] at hl; cases hl) (fun hl => by rw [getD_replicate_false] at hl; cases hl)
  rw [show n + (l.length - n) = l.toArray.size by simp; omega] at this
  exact this


/-- One operation of the head, where two operations are to be told apart. -/
def stepOkP (P : Program) (l : List Oper) (n : Nat) (Q : Exit → Act → World → Prop) (a₀ : Act) (w : World) (G : World → Prop) (Rl : World → World → Prop) (D : Nat → Value → World → Prop) (p q : Nat) (E : Value → Value → Prop) (i : Nat) (o : Oper) : Prop :=
  ∀ a W, G W → Rl w W → Outer l n a₀ a → preds l D a W o.after.toList → o.wp P a W (fun a' W' => ∃ v, a' = a.put o.dst v ∧ D i v W' ∧ Rl W W' ∧ G W' ∧ (i = p → ∀ v', D q v' W → E v v') ∧ (i = q → ∀ v', D p v' W → E v' v)) Q
def stepsOkP (P : Program) (l : List Oper) (n : Nat) (Q : Exit → Act → World → Prop) (a₀ : Act) (w : World) (G : World → Prop) (Rl : World → World → Prop) (D : Nat → Value → World → Prop) (p q : Nat) (E : Value → Value → Prop) : Nat → List Oper → Prop
  | _, [] => True
  | i, o :: os => stepOkP P l n Q a₀ w G Rl D p q E i o ∧ stepsOkP P l n Q a₀ w G Rl D p q E (i + 1) os
theorem steps_getP {l : List Oper} {n : Nat} {Q : Exit → Act → World → Prop} {a₀ : Act} {w : World} {G : World → Prop} {Rl : World → World → Prop} {D : Nat → Value → World → Prop} {p q : Nat} {E : Value → Value → Prop} : ∀ (os : List Oper) (k : Nat), stepsOkP P l n Q a₀ w G Rl D p q E k os → ∀ i o, os[i]? = some o → stepOkP P l n Q a₀ w G Rl D p q E (k + i) o
  | [], _, _, i, o, h => by simp at h
  | x :: os, k, hs, 0, o, h => by simp at h; subst h; exact hs.1
  | x :: os, k, hs, i + 1, o, h => by
    have := steps_getP os (k + 1) hs.2 i o (by simpa using h)
    rw [show k + (i + 1) = k + 1 + i by omega]
    exact this

theorem region_pair {l : List Oper} {n : Nat} {Q : Exit → Act → World → Prop} {a₀ : Act} {w : World} (hB : relB l n = true) (hz : szOk a₀.tmps.size (l.take n) = true)
    (G : World → Prop) (Rl : World → World → Prop) (D : Nat → Value → World → Prop) (p q dp dq : Nat) (E : Value → Value → Prop)
    (hpq : p ≠ q) (hpd : l[p]?.bind (fun o => o.dst) = some dp) (hqd : l[q]?.bind (fun o => o.dst) = some dq) (hpn : p < n) (hqn : q < n)
    (hRt : ∀ {A B C : World}, Rl A B → Rl B C → Rl A C) (hDs : ∀ i v W W', D i v W → Rl W W' → D i v W')
    (hG : G w) (hR0 : Rl w w) (hstep : stepsOkP P l n Q a₀ w G Rl D p q E 0 (l.take n))
    (htail : ∀ W, G W → Rl w W → tailsOk D W (fun a => E (slotOf a dp) (slotOf a dq) → wpList P l.toArray Q (l.drop n) a W) 0 (l.take n) a₀) :
    wpAny P .any l.toArray Q l.toArray.size (Array.replicate l.toArray.size false) a₀ w := by
  have htake : ∀ (i : Nat) (o : Oper), i < n → l[i]? = some o → (l.take n)[i]? = some o := fun i o hi ho => by rw [List.getElem?_take, if_pos hi]; exact ho
  have hback : ∀ (i : Nat) (o : Oper), i < n → l[i]? = some o → ∀ e ∈ o.after, Region.binds .any e = true → e.on < n := by
    have hB' := hB
    simp only [relB, Bool.and_eq_true, decide_eq_true_eq] at hB'
    obtain ⟨⟨⟨⟨⟨_, _⟩, _⟩, hback⟩, _⟩, _⟩ := hB'
    intro i o hi ho e he hbd
    have := List.all_eq_true.1 hback i (List.mem_range.2 (List.getElem?_eq_some_iff.1 ho).1)
    simp only [ho, Bool.and_eq_true, Array.all_eq_true_iff_forall_mem] at this
    have h2 : e.on < i := by simpa [hbd] using this.1 e he
    omega
  refine region_pair_any hB (fun _ W => G W ∧ Rl w W) (fun _ => Rl) D p q dp dq E hpq (fun o ho => by rw [ho] at hpd; exact hpd) (fun o ho => by rw [ho] at hqd; exact hqd) hpn hqn (fun _ j v W W' _ _ => hDs j v W W') (fun i o d hi ho hd => sz_of _ hz i o d (htake i o hi ho) hd) ⟨hG, hR0⟩ ?_ ?_
  · rintro i o hi ho _ a W _ _ ⟨hGW, hRW⟩ hO hp
    have := steps_getP _ _ hstep i o (htake i o hi ho)
    rw [Nat.zero_add] at this
    refine Oper.wp_mono ?_ (this a W hGW hRW hO (preds_of o (hback i o hi ho) hp))
    rintro a' W' ⟨v, h1, h2, h3, h4, h5⟩
    exact ⟨v, h1, h2, h3, ⟨h4, hRt hRW h3⟩, h5⟩
  · rintro _ a W ⟨hGW, hRW⟩ hO hE hd
    have hh : heads D a W 0 (l.take n) := ?hh
    have := tails_filled _ _ _ hh (htail W hGW hRW)
    rw [filled_eq hO] at this
    exact this hE
    refine heads_of _ _ fun j oj d hj hdd => ?_
    rw [List.getElem?_take] at hj
    split at hj
    · rename_i hjn
      rw [Nat.zero_add]
      exact hd j oj d hjn hj hdd
    · cases hj

end Go.Proofs.Yteonkhohloabfaa
