/- A region that draws its order and holds guarded operations, all of which come: by words. -/
import Derived.Test.YteonkhohloabfaaL
namespace Go.Proofs.Yteonkhohloabfaa
open Go.RowKit
variable {P : Program}

/-- What is asked of a region's form: a head of n operations, whose edges lead back, each with a slot of its own; a tail in one order. -/
def relG (l : List Oper) (n : Nat) : Bool :=
  decide (n < l.length) && Region.sinkB .any l.toArray n && Region.chainB .any l.toArray n &&
  ((List.range l.length).all fun i => match l[i]? with
    | some o => o.after.all (fun e => !Region.binds .any e || decide (e.on < i)) && (match o.guard with
      | none => true
      | some (j, _) => decide (j < i) && o.after.toList.any (fun e => Region.binds .any e && e.on == j) && (match l[j]? with
        | some oj => oj.dst.isSome
        | none => false))
    | none => true) &&
  ((List.range n).all fun i => (List.range n).all fun j => decide (i = j) || match l[i]?, l[j]? with
    | some o, some o' => o.dst.isNone || (o.dst != o'.dst)
    | _, _ => true) &&
  Region.seqB .any l.toArray (l.length - n) n (headDone n l.length)

theorem region_rel_g {l : List Oper} {n : Nat} {Q : Exit → Act → World → Prop} {a₀ : Act} {w : World} (hB : relG l n = true)
    (G : Array Bool → World → Prop) (Rl : Nat → World → World → Prop) (D : Nat → Value → World → Prop)
    (hgd : ∀ (i : Nat) (o : Oper) (j : Nat) (b : Bool), i < n → l[i]? = some o → o.guard = some (j, b) → ∀ v W, D j v W → v = .bool b)
    (hDs : ∀ i j v W W', i < n → j ≠ i → D j v W → Rl i W W' → D j v W')
    (hsz : ∀ i o d, i < n → l[i]? = some o → o.dst = some d → d < a₀.tmps.size)
    (hG : G (Array.replicate l.toArray.size false) w)
    (hstep : ∀ i o, i < n → l[i]? = some o → ∀ (listed : Array Bool) a W, listed.size = l.length → listed.getD i true = false → G listed W → Outer l n a₀ a →
      (∀ j oj d, j < n → l[j]? = some oj → oj.dst = some d → (∃ e ∈ o.after, Region.binds .any e = true ∧ e.on = j) → D j (slotOf a d) W) →
      o.wp P a W (fun a' W' => ∃ v, a' = a.put o.dst v ∧ D i v W' ∧ Rl i W W' ∧ G (listed.setIfInBounds i true) W') Q)
    (htail : ∀ (listed : Array Bool) a W, G listed W → Outer l n a₀ a → (∀ j oj d, j < n → l[j]? = some oj → oj.dst = some d → D j (slotOf a d) W) → wpList P l.toArray Q (l.drop n) a W) :
    wpAny P .any l.toArray Q l.toArray.size (Array.replicate l.toArray.size false) a₀ w := by
  simp only [relG, Bool.and_eq_true, decide_eq_true_eq] at hB
  obtain ⟨⟨⟨⟨⟨hn, hs⟩, hc⟩, hback⟩, hdst⟩, hseq⟩ := hB
  have hback' : ∀ (i : Nat) (o : Oper), l[i]? = some o → (∀ e ∈ o.after, Region.binds .any e = true → e.on < i) ∧ (∀ j b, o.guard = some (j, b) → j < i ∧ (∃ e ∈ o.after, Region.binds .any e = true ∧ e.on = j) ∧ ∃ oj dj, l[j]? = some oj ∧ oj.dst = some dj) := by
    intro i o ho
    have := List.all_eq_true.1 hback i (List.mem_range.2 (List.getElem?_eq_some_iff.1 ho).1)
    simp only [ho, Bool.and_eq_true, Array.all_eq_true_iff_forall_mem] at this
    refine ⟨fun e he hb => by simpa [hb] using this.1 e he, fun j b hg => ?_⟩
    have h2 := this.2
    rw [hg] at h2
    simp only [Bool.and_eq_true, decide_eq_true_eq, List.any_eq_true, beq_iff_eq] at h2
    obtain ⟨⟨h3, e, he, hb, hon⟩, h4⟩ := h2
    refine ⟨h3, ⟨e, Array.mem_toList_iff.1 he, hb, hon⟩, ?_⟩
    cases hj : l[j]? with
    | none => rw [hj] at h4; cases h4
    | some oj =>
      rw [hj] at h4
      obtain ⟨dj, hdj⟩ := Option.isSome_iff_exists.1 h4
      exact ⟨oj, dj, rfl, hdj⟩
  have hdst' : ∀ (i j : Nat) (o o' : Oper) (d : Tmp), i < n → j < n → i ≠ j → l[i]? = some o → l[j]? = some o' → o.dst = some d → o'.dst ≠ some d := by
    intro i j o o' d hi hj hij ho ho' hd hd'
    have := List.all_eq_true.1 (List.all_eq_true.1 hdst i (List.mem_range.2 hi)) j (List.mem_range.2 hj)
    simp [hij, ho, ho', hd, hd'] at this
  have key : ∀ (f : Nat) (listed : Array Bool) (a : Act) (W : World), HeadInv .any l.toArray n listed → ((List.range n).filter fun i => !listed.getD i false).length = f →
      G listed W → Outer l n a₀ a → (∀ (j : Nat) (oj : Oper) (d : Tmp), j < n → l[j]? = some oj → listed.getD j false = true → oj.dst = some d → D j (slotOf a d) W) →
      wpAny P .any l.toArray Q (f + (l.length - n)) listed a W := by
    intro f
    induction f with
    | zero =>
      intro listed a W inv hcnt hGW hO hD
      have hall : ∀ i, i < n → listed.getD i false = true := by
        intro i hi
        have := List.eq_nil_of_length_eq_zero hcnt
        have h2 := List.filter_eq_nil_iff.1 this i (List.mem_range.2 hi)
        simpa using h2
      have hcanon : listed = headDone n l.length := by
        apply Array.ext
        · rw [inv.size]; simp [headDone]
        · intro i h1 h2
          have hi : i < l.length := by simpa [headDone] using h2
          simp only [headDone, Array.getElem_ofFn]
          by_cases hin : i < n
          · have := hall i hin
            simp [h1] at this
            simp [this, hin]
          · have := inv.tail i (by omega) (by simpa using hi)
            simp [h1] at this
            simp [this, hin]
      rw [Nat.zero_add]
      have := wpAny_of_seq (md := .any) (Q' := Q) (P := P) (ops := l.toArray) (l.drop n) n listed a W (fun j => by simp [List.getElem?_drop]) (by rw [List.length_drop, hcanon]; exact hseq) (htail listed a W hGW hO (fun j oj d hj ho hd => hD j oj d hj ho (hall j hj) hd))
      rwa [List.length_drop] at this
    | succ f ih =>
      intro listed a W inv hcnt hGW hO hD
      -- some operation of the head has not come up
      have hex : ∃ i, i < n ∧ listed.getD i false = false ∧ ∀ j, j < i → listed.getD j false = true := by
        have hne : ((List.range n).filter fun i => !listed.getD i false) ≠ [] := by intro h; rw [h] at hcnt; cases hcnt
        have : ∃ i, i < n ∧ listed.getD i false = false := by
          obtain ⟨x, hx⟩ := List.exists_mem_of_ne_nil _ hne
          have hx' := List.mem_filter.1 hx
          exact ⟨x, List.mem_range.1 hx'.1, by simpa using hx'.2⟩
        obtain ⟨i, hi, hl⟩ := this
        have : ∀ k i, i ≤ k → i < n → listed.getD i false = false → ∃ i, i < n ∧ listed.getD i false = false ∧ ∀ j, j < i → listed.getD j false = true := by
          intro k
          induction k with
          | zero => intro i hik hi hl; exact ⟨i, hi, hl, fun j hj => by omega⟩
          | succ k ihk =>
            intro i hik hi hl
            by_cases h : ∃ j, j < i ∧ listed.getD j false = false
            · obtain ⟨j, hj, hjl⟩ := h
              exact ihk j (by omega) (by omega) hjl
            · refine ⟨i, hi, hl, fun j hj => ?_⟩
              cases hh : listed.getD j false with
              | true => rfl
              | false => exact absurd ⟨j, hj, hh⟩ h
        exact this i i (Nat.le_refl _) hi hl
      obtain ⟨i₀, hi₀, hun₀, hbelow⟩ := hex
      have hi₀s : i₀ < listed.size := by rw [inv.size]; simp; omega
      have hl₀ : listed.getD i₀ true = false := getD_in hi₀s hun₀
      have hready₀ : i₀ ∈ Region.ready .any l.toArray listed := by
        have ho : l[i₀]? = some l[i₀] := List.getElem?_eq_getElem (by omega)
        refine mem_ready.2 ⟨hl₀, l[i₀], by simp, fun e he hb => hbelow _ ((hback' i₀ _ ho).1 e he hb)⟩
      rw [show f + 1 + (l.length - n) = f + (l.length - n) + 1 by omega]
      refine ⟨fun h => (by rw [h] at hready₀; cases hready₀), fun i hi => ?_⟩
      have hin : i < n := by
        rcases Nat.lt_or_ge i n with h | h
        · exact h
        · exact absurd hi (tail_waits hs hc (by simpa using hn) inv _ i₀ rfl hi₀ hl₀ i h)
      obtain ⟨hiun, o, ho, hall⟩ := mem_ready.1 hi
      have ho' : l[i]? = some o := by simpa using ho
      have hst := hstep i o hin ho' listed a W (by rw [inv.size]; simp) hiun hGW hO (fun j oj d hj hoj hd ⟨e, he, hb, hon⟩ => hD j oj d hj hoj (by rw [← hon]; exact hall e he hb) hd)
      unfold wpOp
      simp only [ho]
      have hw : Region.wanted o (yielded l.toArray a.tmps) = true := by
        unfold Region.wanted
        cases hg : o.guard with
        | none => rfl
        | some jb =>
          obtain ⟨j, b⟩ := jb
          obtain ⟨hji, ⟨e, he, hb, hon⟩, oj, dj, hoj, hdj⟩ := (hback' i o ho').2 j b hg
          have hl := hall e he hb
          rw [hon] at hl
          have hv := hgd i o j b hin ho' hg _ _ (hD j oj dj (by omega) hoj hl hdj)
          have hsz' : dj < a.tmps.size := by rw [hO.size]; exact hsz j oj dj (by omega) hoj hdj
          have : a.tmps[dj]? = some (.bool b) := by
            unfold slotOf at hv
            rw [Array.getElem?_eq_getElem hsz'] at hv ⊢
            simpa using hv
          simp [yielded, hoj, hdj, this]
      rw [if_pos hw]
      refine .inl (Oper.wp_mono ?_ hst)
      rintro a' W' ⟨v, rfl, hDv, hRv, hGv⟩
      have hOut : Outer l n a₀ (a.put o.dst v) := by
        refine ⟨?_, ?_, fun t ht => ?_⟩
        · cases hd : o.dst <;> simp [Act.put, hO.defers]
        · cases hd : o.dst <;> simp [Act.put, hO.size]
        · cases hd : o.dst with
          | none => simpa [Act.put] using hO.same t ht
          | some d =>
            have hne : d ≠ t := fun h => ht i o hin ho' (by rw [hd, h])
            simp only [Act.put]
            rw [Array.getElem?_setIfInBounds_ne hne]
            exact hO.same t ht
      refine ih _ _ _ (inv.set hi hin) ?_ hGv hOut ?_
      · have hiun' : listed.getD i false = false := getD_both hiun
        have his : i < listed.size := by rw [inv.size]; simp; omega
        have e1 : ((List.range n).filter fun j => !(listed.setIfInBounds i true).getD j false) = ((List.range n).filter fun j => !listed.getD j false).filter (fun j => decide (j ≠ i)) := by
          rw [List.filter_filter]
          apply List.filter_congr
          intro j _
          by_cases hji : j = i
          · subst hji; simp [his]
          · rw [getD_set_ne false (Ne.symm hji)]; simp [hji]
        rw [e1]
        have hnd : ((List.range n).filter fun j => !listed.getD j false).Nodup := List.nodup_range.filter _
        have hmem : i ∈ ((List.range n).filter fun j => !listed.getD j false) := List.mem_filter.2 ⟨List.mem_range.2 hin, by simp [hiun']⟩
        have := filter_ne_length i _ hnd hmem
        omega
      · intro j oj d hj hoj hlj hd
        by_cases hji : j = i
        · subst hji
          have : oj = o := Option.some.inj (hoj.symm.trans ho')
          subst this
          have hds : d < a.tmps.size := by rw [hO.size]; exact hsz j oj d hj hoj hd
          rw [hd, slot_put_same hds]
          exact hDv
        · rw [getD_set_ne false (Ne.symm hji)] at hlj
          have hold := hDs i j _ W W' hin hji (hD j oj d hj hoj hlj hd) hRv
          cases hdo : o.dst with
          | none => simpa [Act.put] using hold
          | some d' =>
            have hne : d ≠ d' := fun h => hdst' j i oj o d hj hin hji hoj ho' hd (by rw [hdo, h])
            rw [slot_put_other hne]
            exact hold
  have inv0 : HeadInv .any l.toArray n (Array.replicate l.toArray.size false) :=
    ⟨by simp, fun j oj _ hl => (by rw [getD_replicate_false] at hl; cases hl), fun t _ ht => getD_in (by simpa using ht) (getD_replicate_false _ _)⟩
  have := key n _ a₀ w inv0 (by
    have : ((List.range n).filter fun i => !(Array.replicate l.toArray.size false).getD i false) = List.range n := List.filter_eq_self.2 (fun i _ => by rw [getD_replicate_false]; rfl)
    rw [this, List.length_range]) hG ⟨rfl, rfl, fun _ _ => rfl⟩ (fun j oj d _ _ hl => by rw [getD_replicate_false] at hl; cases hl)
  rw [show n + (l.length - n) = l.toArray.size by simp; omega] at this
  exact this

/-- The words say of each guard that it lets its operations come. -/
def guardsOk (D : Nat → Value → World → Prop) : List Oper → Prop
  | [] => True
  | o :: os => (match o.guard with
      | none => True
      | some (j, b) => ∀ v W, D j v W → v = .bool b) ∧ guardsOk D os
theorem guards_get {D : Nat → Value → World → Prop} : ∀ (os : List Oper), guardsOk D os → ∀ (i : Nat) (o : Oper) (j : Nat) (b : Bool), os[i]? = some o → o.guard = some (j, b) → ∀ v W, D j v W → v = .bool b
  | [], _, i, o, _, _, h, _ => by simp at h
  | x :: os, hs, 0, o, j, b, h, hg => by
    simp at h; subst h
    have := hs.1
    rw [hg] at this
    exact this
  | x :: os, hs, i + 1, o, j, b, h, hg => guards_get os hs.2 i o j b (by simpa using h) hg
theorem region_words_g {l : List Oper} {n : Nat} {Q : Exit → Act → World → Prop} {a₀ : Act} {w : World} (hB : relG l n = true) (hz : szOk a₀.tmps.size (l.take n) = true)
    (G : World → Prop) (Rl : World → World → Prop) (D : Nat → Value → World → Prop)
    (hgd : guardsOk D (l.take n))
    (hRt : ∀ {A B C : World}, Rl A B → Rl B C → Rl A C) (hDs : ∀ i v W W', D i v W → Rl W W' → D i v W')
    (hG : G w) (hR0 : Rl w w) (hstep : stepsOk P l n Q a₀ w G Rl D 0 (l.take n))
    (htail : ∀ a W, G W → Rl w W → Outer l n a₀ a → heads D a W 0 (l.take n) → wpList P l.toArray Q (l.drop n) a W) :
    wpAny P .any l.toArray Q l.toArray.size (Array.replicate l.toArray.size false) a₀ w := by
  have htake : ∀ (i : Nat) (o : Oper), i < n → l[i]? = some o → (l.take n)[i]? = some o := fun i o hi ho => by rw [List.getElem?_take, if_pos hi]; exact ho
  have hback : ∀ (i : Nat) (o : Oper), i < n → l[i]? = some o → ∀ e ∈ o.after, Region.binds .any e = true → e.on < n := by
    have hB' := hB
    simp only [relG, Bool.and_eq_true, decide_eq_true_eq] at hB'
    obtain ⟨⟨⟨⟨⟨_, _⟩, _⟩, hback⟩, _⟩, _⟩ := hB'
    intro i o hi ho e he hbd
    have := List.all_eq_true.1 hback i (List.mem_range.2 (List.getElem?_eq_some_iff.1 ho).1)
    simp only [ho, Bool.and_eq_true, Array.all_eq_true_iff_forall_mem] at this
    have h2 : e.on < i := by simpa [hbd] using this.1 e he
    omega
  refine region_rel_g hB (fun _ W => G W ∧ Rl w W) (fun _ => Rl) D (fun i o j b hi ho hg => guards_get _ hgd i o j b (htake i o hi ho) hg) (fun _ j v W W' _ _ => hDs j v W W') (fun i o d hi ho hd => sz_of _ hz i o d (htake i o hi ho) hd) ⟨hG, hR0⟩ ?_ ?_
  · rintro i o hi ho _ a W _ _ ⟨hGW, hRW⟩ hO hp
    have := steps_get _ _ hstep i o (htake i o hi ho)
    rw [Nat.zero_add] at this
    refine Oper.wp_mono ?_ (this a W hGW hRW hO (preds_of o (hback i o hi ho) hp))
    rintro a' W' ⟨v, h1, h2, h3, h4⟩
    exact ⟨v, h1, h2, h3, h4, hRt hRW h3⟩
  · rintro _ a W ⟨hGW, hRW⟩ hO hd
    refine htail a W hGW hRW hO (heads_of _ _ fun j oj d hj hdd => ?_)
    rw [List.getElem?_take] at hj
    split at hj
    · rename_i hjn
      rw [Nat.zero_add]
      exact hd j oj d hjn hj hdd
    · cases hj

/-- A region that draws its order, by a word for each operation of its head. -/
theorem region_told_g {l : List Oper} (n : Nat) {Q : Exit → Act → World → Prop} {a₀ : Act} {w : World} (hB : relG l n = true) (hz : szOk a₀.tmps.size (l.take n) = true)
    (G : World → Prop) (Rl : World → World → Prop) (D : Nat → Value → World → Prop)
    (hgd : guardsOk D (l.take n))
    (hRt : ∀ {A B C : World}, Rl A B → Rl B C → Rl A C) (hDs : ∀ i v W W', D i v W → Rl W W' → D i v W')
    (hG : G w) (hR0 : Rl w w) (hstep : stepsOk P l n Q a₀ w G Rl D 0 (l.take n))
    (htail : ∀ W, G W → Rl w W → tailsOk D W (fun a => wpList P l.toArray Q (l.drop n) a W) 0 (l.take n) a₀) :
    wpAny P .any l.toArray Q l.toArray.size (Array.replicate l.toArray.size false) a₀ w :=
  region_words_g hB hz G Rl D hgd hRt hDs hG hR0 hstep fun a W hGW hRW hO hh => by
    have := tails_filled _ _ _ hh (htail W hGW hRW)
    rwa [filled_eq hO] at this

end Go.Proofs.Yteonkhohloabfaa
