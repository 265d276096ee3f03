/- Regions in which guards are skipped, too; keys of the search's map; Clone; years. -/
import Derived.Test.YtpnpnfjhjjdmgaaM
import Derived.Test.YtpnpnfjhjjdmgaaS
import Derived.DeepKeys3
namespace Go.Proofs.Ytpnpnfjhjjdmgaa

section
open Go.RowKit
variable {P : Program}
theorem yielded_ne {l : List Oper} {tmps : Array Value} {j : Nat} {dj : Tmp} {oj : Oper} {b : Bool} {v : Value} (hoj : l[j]? = some oj) (hd : oj.dst = some dj) (ht : tmps[dj]? = some v) (hv : v ≠ .bool b) : yielded l.toArray tmps j ≠ some b := by
  have e : (((l.toArray)[j]?).bind (·.dst)).bind (tmps[·]?) = some v := by
    simp only [List.getElem?_toArray, hoj, Option.bind_some, hd, ht]
  unfold yielded
  rw [e]
  intro h
  cases v with
  | bool b' => cases h; exact hv rfl
  | _ => cases h
theorem region_rel_u {l : List Oper} {n : Nat} {Q : Exit → Act → World → Prop} {a₀ : Act} {w : World} (hB : relG l n = true)
    (sk : Nat → Bool) (G : World → Prop) (Rl : Nat → World → World → Prop) (D : Nat → Value → World → Prop)
    (hgd : ∀ (i : Nat) (o : Oper) (j : Nat) (b : Bool), i < n → l[i]? = some o → o.guard = some (j, b) → ∀ v W, D j v W → if sk i then v ≠ .bool b else v = .bool b)
    (hsk : ∀ (i : Nat) (o : Oper), i < n → l[i]? = some o → sk i = true → o.guard ≠ none) (hDsk : ∀ i W, sk i = true → D i undef W)
    (hDs : ∀ i j v W W', i < n → j ≠ i → D j v W → Rl i W W' → D j v W')
    (hsz : ∀ i o d, i < n → l[i]? = some o → o.dst = some d → d < a₀.tmps.size)
    (hG : G w)
    (hstep : ∀ i o, i < n → l[i]? = some o → sk i = false → ∀ (listed : Array Bool) a W, listed.size = l.length → listed.getD i true = false → G W → Outer l n a₀ a →
      (∀ j oj d, j < n → l[j]? = some oj → oj.dst = some d → (∃ e ∈ o.after, Region.binds .any e = true ∧ e.on = j) → D j (slotOf a d) W) →
      o.wp P a W (fun a' W' => ∃ v, a' = a.put o.dst v ∧ D i v W' ∧ Rl i W W' ∧ G W') Q)
    (htail : ∀ (_ : Array Bool) a W, G W → Outer l n a₀ a → (∀ j oj d, j < n → l[j]? = some oj → oj.dst = some d → D j (slotOf a d) W) → wpList P l.toArray Q (l.drop n) a W) :
    wpAny P .any l.toArray Q l.toArray.size (Array.replicate l.toArray.size false) a₀ w := by
  simp only [relG, Bool.and_eq_true, decide_eq_true_eq] at hB
  obtain ⟨⟨⟨⟨⟨hn, hs⟩, hc⟩, hback⟩, hdst⟩, hseq⟩ := hB
  have hback' : ∀ (i : Nat) (o : Oper), l[i]? = some o → (∀ e ∈ o.after, Region.binds .any e = true → e.on < i) ∧ (∀ j b, o.guard = some (j, b) → j < i ∧ (∃ e ∈ o.after, Region.binds .any e = true ∧ e.on = j) ∧ ∃ oj dj, l[j]? = some oj ∧ oj.dst = some dj) := by
    intro i o ho
    have := List.all_eq_true.1 hback i (List.mem_range.2 (List.getElem?_eq_some_iff.1 ho).1)
    simp only [ho, Bool.and_eq_true, Array.all_eq_true_iff_forall_mem] at this
    refine ⟨fun e he hb => by simpa [hb] using this.1 e he, fun j b hg => ?_⟩
    have h2 := this.2
    rw [hg] at h2
    simp only [Bool.and_eq_true, decide_eq_true_eq, List.any_eq_true, beq_iff_eq] at h2
    obtain ⟨⟨h3, e, he, hb, hon⟩, h4⟩ := h2
    refine ⟨h3, ⟨e, Array.mem_toList_iff.1 he, hb, hon⟩, ?_⟩
    cases hj : l[j]? with
    | none => rw [hj] at h4; cases h4
    | some oj =>
      rw [hj] at h4
      obtain ⟨dj, hdj⟩ := Option.isSome_iff_exists.1 h4
      exact ⟨oj, dj, rfl, hdj⟩
  have hdst' : ∀ (i j : Nat) (o o' : Oper) (d : Tmp), i < n → j < n → i ≠ j → l[i]? = some o → l[j]? = some o' → o.dst = some d → o'.dst ≠ some d := by
    intro i j o o' d hi hj hij ho ho' hd hd'
    have := List.all_eq_true.1 (List.all_eq_true.1 hdst i (List.mem_range.2 hi)) j (List.mem_range.2 hj)
    simp [hij, ho, ho', hd, hd'] at this
  have key : ∀ (f : Nat) (listed : Array Bool) (a : Act) (W : World), HeadInv .any l.toArray n listed → ((List.range n).filter fun i => !listed.getD i false).length = f →
      G W → Outer l n a₀ a → (∀ (j : Nat) (oj : Oper) (d : Tmp), j < n → l[j]? = some oj → listed.getD j false = true → oj.dst = some d → D j (slotOf a d) W) →
      wpAny P .any l.toArray Q (f + (l.length - n)) listed a W := by
    intro f
    induction f with
    | zero =>
      intro listed a W inv hcnt hGW hO hD
      have hall : ∀ i, i < n → listed.getD i false = true := by
        intro i hi
        have := List.eq_nil_of_length_eq_zero hcnt
        have h2 := List.filter_eq_nil_iff.1 this i (List.mem_range.2 hi)
        simpa using h2
      have hcanon : listed = headDone n l.length := by
        apply Array.ext
        · rw [inv.size]; simp [headDone]
        · intro i h1 h2
          have hi : i < l.length := by simpa [headDone] using h2
          simp only [headDone, Array.getElem_ofFn]
          by_cases hin : i < n
          · have := hall i hin
            simp [h1] at this
            simp [this, hin]
          · have := inv.tail i (by omega) (by simpa using hi)
            simp [h1] at this
            simp [this, hin]
      rw [Nat.zero_add]
      have := wpAny_of_seq (md := .any) (Q' := Q) (P := P) (ops := l.toArray) (l.drop n) n listed a W (fun j => by simp [List.getElem?_drop]) (by rw [List.length_drop, hcanon]; exact hseq) (htail listed a W hGW hO (fun j oj d hj ho hd => hD j oj d hj ho (hall j hj) hd))
      rwa [List.length_drop] at this
    | succ f ih =>
      intro listed a W inv hcnt hGW hO hD
      -- some operation of the head has not come up
      have hex : ∃ i, i < n ∧ listed.getD i false = false ∧ ∀ j, j < i → listed.getD j false = true := by
        have hne : ((List.range n).filter fun i => !listed.getD i false) ≠ [] := by intro h; rw [h] at hcnt; cases hcnt
        have : ∃ i, i < n ∧ listed.getD i false = false := by
          obtain ⟨x, hx⟩ := List.exists_mem_of_ne_nil _ hne
          have hx' := List.mem_filter.1 hx
          exact ⟨x, List.mem_range.1 hx'.1, by simpa using hx'.2⟩
        obtain ⟨i, hi, hl⟩ := this
        have : ∀ k i, i ≤ k → i < n → listed.getD i false = false → ∃ i, i < n ∧ listed.getD i false = false ∧ ∀ j, j < i → listed.getD j false = true := by
          intro k
          induction k with
          | zero => intro i hik hi hl; exact ⟨i, hi, hl, fun j hj => by omega⟩
          | succ k ihk =>
            intro i hik hi hl
            by_cases h : ∃ j, j < i ∧ listed.getD j false = false
            · obtain ⟨j, hj, hjl⟩ := h
              exact ihk j (by omega) (by omega) hjl
            · refine ⟨i, hi, hl, fun j hj => ?_⟩
              cases hh : listed.getD j false with
              | true => rfl
              | false => exact absurd ⟨j, hj, hh⟩ h
        exact this i i (Nat.le_refl _) hi hl
      obtain ⟨i₀, hi₀, hun₀, hbelow⟩ := hex
      have hi₀s : i₀ < listed.size := by rw [inv.size]; simp; omega
      have hl₀ : listed.getD i₀ true = false := getD_in hi₀s hun₀
      have hready₀ : i₀ ∈ Region.ready .any l.toArray listed := by
        have ho : l[i₀]? = some l[i₀] := List.getElem?_eq_getElem (by omega)
        refine mem_ready.2 ⟨hl₀, l[i₀], by simp, fun e he hb => hbelow _ ((hback' i₀ _ ho).1 e he hb)⟩
      rw [show f + 1 + (l.length - n) = f + (l.length - n) + 1 by omega]
      refine ⟨fun h => (by rw [h] at hready₀; cases hready₀), fun i hi => ?_⟩
      have hin : i < n := by
        rcases Nat.lt_or_ge i n with h | h
        · exact h
        · exact absurd hi (tail_waits hs hc (by simpa using hn) inv _ i₀ rfl hi₀ hl₀ i h)
      obtain ⟨hiun, o, ho, hall⟩ := mem_ready.1 hi
      have ho' : l[i]? = some o := by simpa using ho
      unfold wpOp
      simp only [ho]
      have hgv : ∀ j b, o.guard = some (j, b) → if sk i then yielded l.toArray a.tmps j ≠ some b else yielded l.toArray a.tmps j = some b := by
        intro j b hg
        obtain ⟨hji, ⟨e, he, hb, hon⟩, oj, dj, hoj, hdj⟩ := (hback' i o ho').2 j b hg
        have hl := hall e he hb
        rw [hon] at hl
        have hv := hgd i o j b hin ho' hg _ _ (hD j oj dj (by omega) hoj hl hdj)
        have hsz' : dj < a.tmps.size := by rw [hO.size]; exact hsz j oj dj (by omega) hoj hdj
        have this : a.tmps[dj]? = some (slotOf a dj) := by
          unfold slotOf
          rw [Array.getElem?_eq_getElem hsz']
          rfl
        generalize slotOf a dj = v at hv this
        cases hsk' : sk i with
        | true =>
          rw [hsk'] at hv
          simp only [if_true] at hv ⊢
          exact yielded_ne hoj hdj this hv
        | false =>
          rw [hsk'] at hv
          simp only [Bool.false_eq_true, if_false] at hv ⊢
          subst hv
          simp [yielded, hoj, hdj, this]
      have hcount : ((List.range n).filter fun i_1 => !(listed.setIfInBounds i true).getD i_1 false).length = f := by
        have hiun' : listed.getD i false = false := getD_both hiun
        have his : i < listed.size := by rw [inv.size]; simp; omega
        have e1 : ((List.range n).filter fun j => !(listed.setIfInBounds i true).getD j false) = ((List.range n).filter fun j => !listed.getD j false).filter (fun j => decide (j ≠ i)) := by
          rw [List.filter_filter]
          apply List.filter_congr
          intro j _
          by_cases hji : j = i
          · subst hji; simp [his]
          · rw [getD_set_ne false (Ne.symm hji)]; simp [hji]
        rw [e1]
        have hnd : ((List.range n).filter fun j => !listed.getD j false).Nodup := List.nodup_range.filter _
        have hmem : i ∈ ((List.range n).filter fun j => !listed.getD j false) := List.mem_filter.2 ⟨List.mem_range.2 hin, by simp [hiun']⟩
        have := filter_ne_length i _ hnd hmem
        omega
      cases hski : sk i with
      | true =>
        have hw : ¬ Region.wanted o (yielded l.toArray a.tmps) = true := by
          unfold Region.wanted
          cases hg : o.guard with
          | none => exact absurd hg (hsk i o hin ho' hski)
          | some jb =>
            obtain ⟨j, b⟩ := jb
            have := hgv j b hg
            simp only [hski, if_true] at this
            simpa using this
        rw [if_neg hw]
        have hOut : Outer l n a₀ (a.put o.dst undef) := by
          refine ⟨?_, ?_, fun t ht => ?_⟩
          · cases hd : o.dst <;> simp [Act.put, hO.defers]
          · cases hd : o.dst <;> simp [Act.put, hO.size]
          · cases hd : o.dst with
            | none => simpa [Act.put] using hO.same t ht
            | some d =>
              have hne : d ≠ t := fun h => ht i o hin ho' (by rw [hd, h])
              simp only [Act.put]
              rw [Array.getElem?_setIfInBounds_ne hne]
              exact hO.same t ht
        refine ih _ _ _ (inv.set hi hin) hcount hGW hOut ?_
        intro j oj d hj hoj hlj hd
        by_cases hji : j = i
        · subst hji
          cases hd2 : o.dst with
          | none => have e9 : oj = o := Option.some.inj (hoj.symm.trans ho'); rw [e9, hd2] at hd; cases hd
          | some d9 =>
            have e9 : oj = o := Option.some.inj (hoj.symm.trans ho')
            rw [e9, hd2] at hd
            cases hd
            have hds : d < a.tmps.size := by rw [hO.size]; exact hsz j o d hj (e9 ▸ hoj) hd2
            rw [slot_put_same hds]
            exact hDsk _ _ hski
        · rw [getD_set_ne false (Ne.symm hji)] at hlj
          have hold := hD j oj d hj hoj hlj hd
          cases hdo : o.dst with
          | none => simpa [Act.put] using hold
          | some d' =>
            have hne : d ≠ d' := fun h => hdst' j i oj o d hj hin hji hoj ho' hd (by rw [hdo, h])
            rw [slot_put_other hne]
            exact hold
      | false =>
        have hst := hstep i o hin ho' hski listed a W (by rw [inv.size]; simp) hiun hGW hO (fun j oj d hj hoj hd ⟨e, he, hb, hon⟩ => hD j oj d hj hoj (by rw [← hon]; exact hall e he hb) hd)
        have hw : Region.wanted o (yielded l.toArray a.tmps) = true := by
          unfold Region.wanted
          cases hg : o.guard with
          | none => rfl
          | some jb =>
            obtain ⟨j, b⟩ := jb
            have := hgv j b hg
            simp only [hski, Bool.false_eq_true, if_false] at this
            simpa using this
        rw [if_pos hw]
        refine .inl (Oper.wp_mono ?_ hst)
        rintro a' W' ⟨v, rfl, hDv, hRv, hGv⟩
        have hOut : Outer l n a₀ (a.put o.dst v) := by
          refine ⟨?_, ?_, fun t ht => ?_⟩
          · cases hd : o.dst <;> simp [Act.put, hO.defers]
          · cases hd : o.dst <;> simp [Act.put, hO.size]
          · cases hd : o.dst with
            | none => simpa [Act.put] using hO.same t ht
            | some d =>
              have hne : d ≠ t := fun h => ht i o hin ho' (by rw [hd, h])
              simp only [Act.put]
              rw [Array.getElem?_setIfInBounds_ne hne]
              exact hO.same t ht
        refine ih _ _ _ (inv.set hi hin) hcount hGv hOut ?_
        intro j oj d hj hoj hlj hd
        by_cases hji : j = i
        · subst hji
          have : oj = o := Option.some.inj (hoj.symm.trans ho')
          subst this
          have hds : d < a.tmps.size := by rw [hO.size]; exact hsz j oj d hj hoj hd
          rw [hd, slot_put_same hds]
          exact hDv
        · rw [getD_set_ne false (Ne.symm hji)] at hlj
          have hold := hDs i j _ W W' hin hji (hD j oj d hj hoj hlj hd) hRv
          cases hdo : o.dst with
          | none => simpa [Act.put] using hold
          | some d' =>
            have hne : d ≠ d' := fun h => hdst' j i oj o d hj hin hji hoj ho' hd (by rw [hdo, h])
            rw [slot_put_other hne]
            exact hold
  have inv0 : HeadInv .any l.toArray n (Array.replicate l.toArray.size false) :=
    ⟨by simp, fun j oj _ hl => (by rw [getD_replicate_false] at hl; cases hl), fun t _ ht => getD_in (by simpa using ht) (getD_replicate_false _ _)⟩
  have := key n _ a₀ w inv0 (by
    have : ((List.range n).filter fun i => !(Array.replicate l.toArray.size false).getD i false) = List.range n := List.filter_eq_self.2 (fun i _ => by rw [getD_replicate_false]; rfl)
    rw [this, List.length_range]) hG ⟨rfl, rfl, fun _ _ => rfl⟩ (fun j oj d _ _ hl => by rw [getD_replicate_false] at hl; cases hl)
  rw [show n + (l.length - n) = l.toArray.size by simp; omega] at this
  exact this
/-- The words say of each guard whether it lets its operation come. -/
def guardsU (D : Nat → Value → World → Prop) : List Bool → List Oper → Prop
  | _, [] => True
  | sks, o :: os => (match o.guard with
      | none => sks.headD false = false
      | some (j, b) => ∀ v W, D j v W → if sks.headD false then v ≠ .bool b else v = .bool b) ∧ guardsU D sks.tail os
theorem guardsU_get {D : Nat → Value → World → Prop} : ∀ (os : List Oper) (sks : List Bool), guardsU D sks os → ∀ (i : Nat) (o : Oper), os[i]? = some o → (skAt sks i = true → o.guard ≠ none) ∧ ∀ j b, o.guard = some (j, b) → ∀ v W, D j v W → if skAt sks i then v ≠ .bool b else v = .bool b
  | [], _, _, i, o, h => by simp at h
  | x :: os, sks, hs, 0, o, h => by
    simp at h; subst h
    have := hs.1
    rw [skAt_zero]
    cases hg : x.guard with
    | none =>
      rw [hg] at this
      exact ⟨fun e => (by rw [this] at e; cases e), fun j b e => (by cases e)⟩
    | some jb =>
      rw [hg] at this
      exact ⟨fun _ e => (by cases e), fun j b e => (by cases e; exact this)⟩
  | x :: os, sks, hs, i + 1, o, h => by
    rw [skAt_succ]
    exact guardsU_get os sks.tail hs.2 i o (by simpa using h)
/-- Words of operations that do not come say nothing. -/
def skWordsU : List Bool → List (Value → World → Prop) → Prop
  | _, [] => True
  | sks, p :: ps => (sks.headD false = true → ∀ W, p undef W) ∧ skWordsU sks.tail ps
theorem skWordsU_get : ∀ (ps : List (Value → World → Prop)) (sks : List Bool), skWordsU sks ps → ∀ i W, skAt sks i = true → pickD ps i undef W
  | [], _, _, _, _, _ => trivial
  | p :: ps, sks, hs, 0, W, h => hs.1 (by rw [← skAt_zero]; exact h) W
  | p :: ps, sks, hs, i + 1, W, h => skWordsU_get ps sks.tail hs.2 i W (by rw [← skAt_succ]; exact h)
/-- A region that draws its order, by a word for each operation of its head; some do not come. -/
theorem region_told_u {l : List Oper} (n : Nat) {Q : Exit → Act → World → Prop} {a₀ : Act} {w : World} (hB : relG l n = true) (hz : szOk a₀.tmps.size (l.take n) = true) (sks : List Bool)
    (G : World → Prop) (Rl : World → World → Prop) (ps : List (Value → World → Prop)) (hgd : guardsU (pickD ps) sks (l.take n)) (hws : skWordsU sks ps)
    (hRt : ∀ {A B C : World}, Rl A B → Rl B C → Rl A C) (hDs : ∀ i v W W', pickD ps i v W → Rl W W' → pickD ps i v W')
    (hG : G w) (hR0 : Rl w w) (hstep : stepsOkS P l n Q a₀ w G Rl (pickD ps) sks 0 (l.take n))
    (htail : ∀ W, G W → Rl w W → tailsOk (pickD ps) W (fun a => wpList P l.toArray Q (l.drop n) a W) 0 (l.take n) a₀) :
    wpAny P .any l.toArray Q l.toArray.size (Array.replicate l.toArray.size false) a₀ w := by
  have htake : ∀ (i : Nat) (o : Oper), i < n → l[i]? = some o → (l.take n)[i]? = some o := fun i o hi ho => by rw [List.getElem?_take, if_pos hi]; exact ho
  have hback : ∀ (i : Nat) (o : Oper), i < n → l[i]? = some o → ∀ e ∈ o.after, Region.binds .any e = true → e.on < n := by
    have hB' := hB
    simp only [relG, Bool.and_eq_true, decide_eq_true_eq] at hB'
    obtain ⟨⟨⟨⟨⟨_, _⟩, _⟩, hback⟩, _⟩, _⟩ := hB'
    intro i o hi ho e he hbd
    have := List.all_eq_true.1 hback i (List.mem_range.2 (List.getElem?_eq_some_iff.1 ho).1)
    simp only [ho, Bool.and_eq_true, Array.all_eq_true_iff_forall_mem] at this
    have h2 : e.on < i := by simpa [hbd] using this.1 e he
    omega
  refine region_rel_u hB (skAt sks) (fun W => G W ∧ Rl w W) (fun _ => Rl) (pickD ps) (fun i o j b hi ho hg => (guardsU_get _ _ hgd i o (htake i o hi ho)).2 j b hg) (fun i o hi ho hs => (guardsU_get _ _ hgd i o (htake i o hi ho)).1 hs) (fun i W hs => skWordsU_get ps sks hws i W hs) (fun _ j v W W' _ _ => hDs j v W W') (fun i o d hi ho hd => sz_of _ hz i o d (htake i o hi ho) hd) ⟨hG, hR0⟩ ?_ ?_
  · rintro i o hi ho hski _ a W _ _ ⟨hGW, hRW⟩ hO hp
    have := stepsS_get _ _ _ hstep i o (htake i o hi ho)
    rw [Nat.zero_add] at this
    rcases this with h | this
    · rw [h] at hski; cases hski
    refine Oper.wp_mono ?_ (this a W hGW hRW hO (preds_of o (hback i o hi ho) hp))
    rintro a' W' ⟨v, h1, h2, h3, h4⟩
    exact ⟨v, h1, h2, h3, h4, hRt hRW h3⟩
  · rintro _ a W ⟨hGW, hRW⟩ hO hd
    have hh := heads_of (D := pickD ps) (a := a) (W := W) (l.take n) 0 fun j oj d hj hdd => by
      rw [List.getElem?_take] at hj
      split at hj
      · rename_i hjn
        rw [Nat.zero_add]
        exact hd j oj d hjn hj hdd
      · cases hj
    have := tails_filled _ _ _ hh (htail W hGW hRW)
    rwa [filled_eq hO] at this

end

section
open Go.RowKit Go.Deep Go.WideShapes Go.ChangeShapes Go.ChangeAt
theorem mapM_some' {α β : Type} {f : α → Option β} {g : α → β} : ∀ {l : List α}, (∀ x ∈ l, f x = some (g x)) → l.mapM f = some (l.map g)
  | [], _ => rfl
  | x :: l, h => by
    rw [List.mapM_cons, h x (by simp), mapM_some' (l := l) fun y hy => h y (List.mem_cons_of_mem _ hy)]
    rfl
def inI (n : Int) : Prop := 0 ≤ n ∧ n ≤ 1000000000000
theorem lits_int (d : Nat) {n : Int} (h : inI n) : Try.prog.keyLits (d + 1) 3 [vi n] = some [.int .i64 n] := by
  unfold Program.keyLits
  rw [Try.underlying3]
  have hw : (Lit.int .i64 n).wf = true := by
    unfold inI at h
    simp only [Lit.wf, Bool.and_eq_true, decide_eq_true_eq]
    exact ⟨Int.le_trans (by decide) h.1, Int.le_trans h.2 (by decide)⟩
  dsimp only
  rw [if_pos ⟨rfl, hw⟩]
theorem cells3 : Try.prog.cellsOf 3 = 1 := by kernel_rfl
theorem flat_one {α : Type} (f : Int → α) : ∀ (l : List Int) (n : Nat), l.length = n → ((List.range n).map fun i => [f (iAt l i)]).flatten = l.map f := by
  intro l n h
  have h1 : l.map f = ((List.range n).map (iAt l)).map f := by rw [← h, map_iAt]
  rw [h1]
  generalize List.range n = r
  induction r with
  | nil => rfl
  | cons x r ih => simp [ih]
theorem lits_arr (d t n : Nat) (hu : Try.prog.underlying t = some (.array n 3)) (hc : Try.prog.cellsOf t = n) (l : List Int) (hl : l.length = n) (hb : ∀ x ∈ l, inI x) : Try.prog.keyLits (d + 2) t (l.map vi) = some (l.map (Lit.int .i64)) := by
  have e0 : Try.prog.keyLits (d + 2) t (l.map vi) = if (l.map vi).length = Try.prog.cellsOf t then ((List.range n).mapM fun i => Try.prog.keyLits (d + 1) 3 (((l.map vi).drop (i * Try.prog.cellsOf 3)).take (Try.prog.cellsOf 3))).map List.flatten else none := by
    conv => lhs; unfold Program.keyLits
    rw [hu]
  rw [e0]
  have h1 : ((List.range n).mapM fun i => Try.prog.keyLits (d + 1) 3 (((l.map vi).drop (i * Try.prog.cellsOf 3)).take (Try.prog.cellsOf 3))) = some ((List.range n).map fun i => [Lit.int .i64 (iAt l i)]) := by
    refine mapM_some' fun i hi => ?_
    have hi' := List.mem_range.1 hi
    obtain ⟨x, hx⟩ := get_of_lt (l := l) (k := i) (by omega)
    rw [cells3, Nat.mul_one]
    have e : ((l.map vi).drop i).take 1 = [vi x] := by
      rw [List.drop_eq_getElem_cons (by simp; omega)]
      simp only [List.take_succ_cons, List.take_zero, List.getElem_map]
      rw [List.getElem?_eq_getElem (by omega)] at hx
      cases hx
      rfl
    rw [e, iAt_of hx]
    exact lits_int d (hb x (List.mem_of_getElem? hx))
  have h2 := flat_one (Lit.int .i64) l n hl
  rw [if_pos (by rw [hc]; simp [hl]), h1, Option.map_some, h2]
theorem cells121 : Try.prog.cellsOf 121 = 20 := by kernel_rfl
theorem cells109 : Try.prog.cellsOf 109 = 5 := by kernel_rfl
theorem cells123 : Try.prog.cellsOf 123 = 26 := by kernel_rfl
def SxIn (s : Sx) : Prop := SxOk s ∧ inI (s.n : Int) ∧ (∀ x ∈ s.a, inI x) ∧ ∀ x ∈ s.p, inI x
abbrev SxK := {s : Sx // SxIn s}
abbrev ekS (s : SxK) : Value := .agg (stC s.1)
theorem stC_inj {s t : Sx} (hs : SxOk s) (ht : SxOk t) (h : stC s = stC t) : s = t := by
  have h1 := congrArg Array.toList h
  rw [stC_list hs, stC_list ht] at h1
  injection h1 with h2 h3
  have h4 : s.a ++ s.p = t.a ++ t.p := List.map_inj_right (f := vi) (fun a b e => by cases e; rfl) |>.1 h3
  have h5 := List.append_inj h4 (by rw [hs.a, ht.a])
  obtain ⟨n, a, p⟩ := s
  obtain ⟨m, b, q⟩ := t
  obtain ⟨rfl, rfl⟩ := h5
  have : (n : Int) = m := by injection h2
  have : n = m := by omega
  rw [this]
theorem lits_cs (d n : Nat) (a p : List Int) (ha : a.length = 20) (hp : p.length = 5) (h1 : inI (n : Int)) (h2 : ∀ x ∈ a, inI x) (h3 : ∀ x ∈ p, inI x) :
    Try.prog.keyLits (d + 3) 123 (vi (n : Int) :: (a ++ p).map vi) = some ([Lit.int .i64 n] ++ (a.map (Lit.int .i64) ++ p.map (Lit.int .i64))) := by
  have e1 := lits_int (d + 1) h1
  have e2 := lits_arr d 121 20 Try.underlying121 cells121 a ha h2
  have e3 := lits_arr d 109 5 Try.underlying109 cells109 p hp h3
  have d1 : ((vi (n : Int) :: (a ++ p).map vi).drop 0).take 1 = [vi (n : Int)] := rfl
  have d2 : ((vi (n : Int) :: (a ++ p).map vi).drop 1).take 20 = a.map vi := by
    rw [List.drop_succ_cons, List.drop_zero, List.map_append, List.take_append_of_le_length (by simp [ha]), List.take_of_length_le (by simp [ha])]
  have d3 : ((vi (n : Int) :: (a ++ p).map vi).drop 21).take 5 = p.map vi := by
    rw [List.drop_succ_cons, List.map_append, List.drop_append_of_le_length (by simp [ha]), List.drop_of_length_le (by simp [ha]), List.nil_append, List.take_of_length_le (by simp [hp])]
  have hl : (vi (n : Int) :: (a ++ p).map vi).length = 26 := by simp [ha, hp]
  generalize vi (n : Int) :: (a ++ p).map vi = cs at d1 d2 d3 hl
  conv => lhs; unfold Program.keyLits
  rw [Try.underlying123]
  dsimp only
  rw [if_pos ⟨by rw [hl, cells123], by simp⟩]
  simp only [List.mapM_cons, List.mapM_nil, cells3, cells121, cells109, d1, d2, d3, e1, e2, e3, Option.bind_eq_bind, Option.bind_some, Option.pure_def, Option.map_some, List.flatten_cons, List.flatten_nil, List.append_nil]
theorem lits_st (d : Nat) (s : SxK) : Try.prog.keyLits (d + 3) 123 (stC s.1).toList = some ([Lit.int .i64 s.1.n] ++ (s.1.a.map (Lit.int .i64) ++ s.1.p.map (Lit.int .i64))) := by
  have h := lits_cs d s.1.n s.1.a s.1.p s.2.1.a s.2.1.p s.2.2.1 s.2.2.2.1 s.2.2.2.2
  rw [← stC_list s.2.1] at h
  exact h
theorem type123 : Try.prog.keyType 123 = true := by kernel_rfl
theorem typeAt123 : Try.prog.keyTypeAt 3 123 = true := by kernel_rfl
theorem formed123 (s : Sx) : (Value.agg (stC s)).formed Try.prog 123 = true := by
  simp only [Value.formed, Try.underlying123, cells123]
  rfl
theorem types_two : Nat.ble 2 Try.prog.types.size = true := by kernel_rfl
theorem types_sz : ∃ d, Try.prog.types.size + 1 = d + 3 := ⟨Try.prog.types.size - 2, by have := Nat.le_of_ble_eq_true types_two; omega⟩
theorem key123 (s : SxK) : ∃ L, keyOf Try.prog 123 (ekS s) = some (.string (keyBytes L)) ∧ Try.prog.keyLits (Try.prog.types.size + 1) 123 (stC s.1).toList = some L := by
  obtain ⟨d, hd⟩ := types_sz
  refine ⟨_, ?_, by rw [hd]; exact lits_st d s⟩
  unfold keyOf
  rw [Try.underlying123]
  dsimp only
  rw [type123, formed123, hd]
  simp only [Bool.and_self, if_true]
  have h : Try.prog.keyLits (d + 3) 123 (Value.agg (stC s.1)).cells.toList = _ := lits_st d s
  rw [h]
  rfl
theorem key_eq (a b : SxK) (W : World) : (Op.equal 123 (ekS a) (ekS b)).run Try.prog W = .ok (decide (a = b)) W := by
  obtain ⟨L, h1, k1⟩ := key123 a
  obtain ⟨M, h2, k2⟩ := key123 b
  obtain ⟨r, hr, hiff⟩ := run_equal_deep W (m := 3) (show 3 ≤ 10000 by omega) typeAt123 (by rw [Try.underlying123]) h1 h2
  suffices hh : r = decide (a = b) by
    rw [← hh]
    exact hr
  rw [Bool.eq_iff_iff, hiff, decide_eq_true_eq]
  constructor
  · intro e
    have e1 : keyBytes L = keyBytes M := by simpa using e
    have e2 := keyLits_inj k1 k2 e1
    obtain ⟨d, hd⟩ := types_sz
    rw [hd, lits_st] at k1 k2
    have e3 := (Option.some.inj k1).trans (e2.trans (Option.some.inj k2).symm)
    obtain ⟨⟨n, x, y⟩, ha⟩ := a
    obtain ⟨⟨m, z, u⟩, hb⟩ := b
    have hi : ∀ p q : Int, Lit.int .i64 p = Lit.int .i64 q → p = q := fun p q e => by cases e; rfl
    simp only [List.cons_append, List.nil_append, List.cons.injEq] at e3
    have e4 := List.append_inj e3.2 (by simp [ha.1.a, hb.1.a])
    have e5 := List.map_inj_right (f := Lit.int .i64) hi |>.1 e4.1
    have e6 := List.map_inj_right (f := Lit.int .i64) hi |>.1 e4.2
    have e7 := hi _ _ e3.1
    have e8 : n = m := by omega
    subst e5 e6 e8
    rfl
  · rintro rfl
    rw [h1] at h2
    exact Option.some.inj h2
theorem key_check (c : Bool) (a : SxK) (W : World) : (Instr.checkKey c 10000 123 (ekS a)).run Try.prog W = .ok () W :=
  run_checkKey_deep c 9997 3 123 typeAt123 W 3 _ _ (formed123 a.1) (lits_st 0 a)
theorem bits_vi (m : Nat) (x : Int) : Instr.sameBits m (vi x) (vi x) = true := by cases m <;> simp [Instr.sameBits]
theorem bits_all (m : Nat) : ∀ l : List Int, ((l.map vi).zip (l.map vi)).all (fun q => Instr.sameBits m q.1 q.2) = true
  | [] => rfl
  | x :: l => by simp [bits_vi, bits_all m l]
theorem key_bits (a : SxK) : Instr.sameBits 10000 (ekS a) (ekS a) = true := by
  have h := stC_list a.2.1
  have h2 : ∀ c : Array Value, c.toList = vi (a.1.n : Int) :: (a.1.a ++ a.1.p).map vi → ∀ m, Instr.sameBits (m + 1) (.agg c) (.agg c) = true := by
    intro c hc m
    simp only [Instr.sameBits, beq_self_eq_true, Bool.true_and, hc]
    exact bits_all m (a.1.n :: (a.1.a ++ a.1.p))
  exact h2 _ h 9999
theorem st_key : EqKey Try.prog 123 ekS := ⟨key_eq, key_check, key_bits, _, Try.underlying123⟩
end
end Go.Proofs.Ytpnpnfjhjjdmgaa
