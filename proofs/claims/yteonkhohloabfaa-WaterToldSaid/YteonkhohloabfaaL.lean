/- A region that draws its order, by one word for each operation: what each leaves holds in whatever world comes behind it. -/
import Derived.StillTail
import Derived.Test.YteonkhohloabfaaG
namespace Go.Proofs.Yteonkhohloabfaa
open Go.RowKit
variable {P : Program}

/-- The head of a region is done, its tail is not begun. -/
def headDone (n size : Nat) : Array Bool := Array.ofFn (n := size) fun i => decide (i.val < n)

/-- What is asked of a region's form: a head of n operations, whose edges lead back, each with a slot of its own; a tail in one order. -/
def relB (l : List Oper) (n : Nat) : Bool :=
  decide (n < l.length) && Region.sinkB .any l.toArray n && Region.chainB .any l.toArray n &&
  ((List.range l.length).all fun i => match l[i]? with
    | some o => o.after.all (fun e => !Region.binds .any e || decide (e.on < i)) && o.guard.isNone
    | none => true) &&
  ((List.range n).all fun i => (List.range n).all fun j => decide (i = j) || match l[i]?, l[j]? with
    | some o, some o' => o.dst.isNone || (o.dst != o'.dst)
    | _, _ => true) &&
  Region.seqB .any l.toArray (l.length - n) n (headDone n l.length)

def slotOf (a : Act) (t : Nat) : Value := a.tmps[t]?.getD undef

/-- Slots that the head does not write are as they were. -/
structure Outer (l : List Oper) (n : Nat) (a₀ a : Act) : Prop where
  defers : a.defers = a₀.defers
  size : a.tmps.size = a₀.tmps.size
  same : ∀ t, (∀ i o, i < n → l[i]? = some o → o.dst ≠ some t) → a.tmps[t]? = a₀.tmps[t]?

theorem slot_put_same {a : Act} {d : Nat} {v : Value} (h : d < a.tmps.size) : slotOf (a.put (some d) v) d = v := by
  simp [slotOf, Act.put, h]
theorem slot_put_other {a : Act} {d t : Nat} {v : Value} (h : t ≠ d) : slotOf (a.put (some d) v) t = slotOf a t := by
  simp [slotOf, Act.put, Array.getElem?_setIfInBounds_ne (Ne.symm h)]

theorem filter_ne_length (i : Nat) : ∀ l : List Nat, l.Nodup → i ∈ l → (l.filter (fun j => decide (j ≠ i))).length + 1 = l.length
  | [], _, h => by cases h
  | x :: l, hn, h => by
    rw [List.nodup_cons] at hn
    by_cases hx : x = i
    · subst hx
      have : l.filter (fun j => decide (j ≠ x)) = l := List.filter_eq_self.2 (fun j hj => by
        have : j ≠ x := fun e => hn.1 (e ▸ hj)
        simp [this])
      simp only [ne_eq, not_true_eq_false, decide_false, Bool.false_eq_true, not_false_eq_true, List.filter_cons_of_neg, List.length_cons]
      have e2 : (l.filter (fun j => decide (¬ j = x))) = l := this
      rw [e2]
    · have hm : i ∈ l := by
        rcases List.mem_cons.1 h with h | h
        · exact absurd h.symm hx
        · exact h
      have := filter_ne_length i l hn.2 hm
      rw [List.filter_cons_of_pos (by simp [hx])]
      simp only [List.length_cons]
      omega

theorem region_rel_any {l : List Oper} {n : Nat} {Q : Exit → Act → World → Prop} {a₀ : Act} {w : World} (hB : relB l n = true)
    (G : Array Bool → World → Prop) (Rl : Nat → World → World → Prop) (D : Nat → Value → World → Prop)
    (hDs : ∀ i j v W W', i < n → j ≠ i → D j v W → Rl i W W' → D j v W')
    (hsz : ∀ i o d, i < n → l[i]? = some o → o.dst = some d → d < a₀.tmps.size)
    (hG : G (Array.replicate l.toArray.size false) w)
    (hstep : ∀ i o, i < n → l[i]? = some o → ∀ (listed : Array Bool) a W, listed.size = l.length → listed.getD i true = false → G listed W → Outer l n a₀ a →
      (∀ j oj d, j < n → l[j]? = some oj → oj.dst = some d → (∃ e ∈ o.after, Region.binds .any e = true ∧ e.on = j) → D j (slotOf a d) W) →
      o.wp P a W (fun a' W' => ∃ v, a' = a.put o.dst v ∧ D i v W' ∧ Rl i W W' ∧ G (listed.setIfInBounds i true) W') Q)
    (htail : ∀ (listed : Array Bool) a W, G listed W → Outer l n a₀ a → (∀ j oj d, j < n → l[j]? = some oj → oj.dst = some d → D j (slotOf a d) W) → wpList P l.toArray Q (l.drop n) a W) :
    wpAny P .any l.toArray Q l.toArray.size (Array.replicate l.toArray.size false) a₀ w := by
  simp only [relB, Bool.and_eq_true, decide_eq_true_eq] at hB
  obtain ⟨⟨⟨⟨⟨hn, hs⟩, hc⟩, hback⟩, hdst⟩, hseq⟩ := hB
  have hback' : ∀ (i : Nat) (o : Oper), l[i]? = some o → (∀ e ∈ o.after, Region.binds .any e = true → e.on < i) ∧ o.guard = none := by
    intro i o ho
    have := List.all_eq_true.1 hback i (List.mem_range.2 (List.getElem?_eq_some_iff.1 ho).1)
    simp only [ho, Bool.and_eq_true, Array.all_eq_true_iff_forall_mem] at this
    exact ⟨fun e he hb => by simpa [hb] using this.1 e he, by simpa using this.2⟩
  have hdst' : ∀ (i j : Nat) (o o' : Oper) (d : Tmp), i < n → j < n → i ≠ j → l[i]? = some o → l[j]? = some o' → o.dst = some d → o'.dst ≠ some d := by
    intro i j o o' d hi hj hij ho ho' hd hd'
    have := List.all_eq_true.1 (List.all_eq_true.1 hdst i (List.mem_range.2 hi)) j (List.mem_range.2 hj)
    simp [hij, ho, ho', hd, hd'] at this
  have key : ∀ (f : Nat) (listed : Array Bool) (a : Act) (W : World), HeadInv .any l.toArray n listed → ((List.range n).filter fun i => !listed.getD i false).length = f →
      G listed W → Outer l n a₀ a → (∀ (j : Nat) (oj : Oper) (d : Tmp), j < n → l[j]? = some oj → listed.getD j false = true → oj.dst = some d → D j (slotOf a d) W) →
      wpAny P .any l.toArray Q (f + (l.length - n)) listed a W := by
    intro f
    induction f with
    | zero =>
      intro listed a W inv hcnt hGW hO hD
      have hall : ∀ i, i < n → listed.getD i false = true := by
        intro i hi
        have := List.eq_nil_of_length_eq_zero hcnt
        have h2 := List.filter_eq_nil_iff.1 this i (List.mem_range.2 hi)
        simpa using h2
      have hcanon : listed = headDone n l.length := by
        apply Array.ext
        · rw [inv.size]; simp [headDone]
        · intro i h1 h2
          have hi : i < l.length := by simpa [headDone] using h2
          simp only [headDone, Array.getElem_ofFn]
          by_cases hin : i < n
          · have := hall i hin
            simp [h1] at this
            simp [this, hin]
          · have := inv.tail i (by omega) (by simpa using hi)
            simp [h1] at this
            simp [this, hin]
      rw [Nat.zero_add]
      have := wpAny_of_seq (md := .any) (Q' := Q) (P := P) (ops := l.toArray) (l.drop n) n listed a W (fun j => by simp [List.getElem?_drop]) (by rw [List.length_drop, hcanon]; exact hseq) (htail listed a W hGW hO (fun j oj d hj ho hd => hD j oj d hj ho (hall j hj) hd))
      rwa [List.length_drop] at this
    | succ f ih =>
      intro listed a W inv hcnt hGW hO hD
      -- some operation of the head has not come up
      have hex : ∃ i, i < n ∧ listed.getD i false = false ∧ ∀ j, j < i → listed.getD j false = true := by
        have hne : ((List.range n).filter fun i => !listed.getD i false) ≠ [] := by intro h; rw [h] at hcnt; cases hcnt
        have : ∃ i, i < n ∧ listed.getD i false = false := by
          obtain ⟨x, hx⟩ := List.exists_mem_of_ne_nil _ hne
          have hx' := List.mem_filter.1 hx
          exact ⟨x, List.mem_range.1 hx'.1, by simpa using hx'.2⟩
        obtain ⟨i, hi, hl⟩ := this
        have : ∀ k i, i ≤ k → i < n → listed.getD i false = false → ∃ i, i < n ∧ listed.getD i false = false ∧ ∀ j, j < i → listed.getD j false = true := by
          intro k
          induction k with
          | zero => intro i hik hi hl; exact ⟨i, hi, hl, fun j hj => by omega⟩
          | succ k ihk =>
            intro i hik hi hl
            by_cases h : ∃ j, j < i ∧ listed.getD j false = false
            · obtain ⟨j, hj, hjl⟩ := h
              exact ihk j (by omega) (by omega) hjl
            · refine ⟨i, hi, hl, fun j hj => ?_⟩
              cases hh : listed.getD j false with
              | true => rfl
              | false => exact absurd ⟨j, hj, hh⟩ h
        exact this i i (Nat.le_refl _) hi hl
      obtain ⟨i₀, hi₀, hun₀, hbelow⟩ := hex
      have hi₀s : i₀ < listed.size := by rw [inv.size]; simp; omega
      have hl₀ : listed.getD i₀ true = false := getD_in hi₀s hun₀
      have hready₀ : i₀ ∈ Region.ready .any l.toArray listed := by
        have ho : l[i₀]? = some l[i₀] := List.getElem?_eq_getElem (by omega)
        refine mem_ready.2 ⟨hl₀, l[i₀], by simp, fun e he hb => hbelow _ ((hback' i₀ _ ho).1 e he hb)⟩
      rw [show f + 1 + (l.length - n) = f + (l.length - n) + 1 by omega]
      refine ⟨fun h => (by rw [h] at hready₀; cases hready₀), fun i hi => ?_⟩
      have hin : i < n := by
        rcases Nat.lt_or_ge i n with h | h
        · exact h
        · exact absurd hi (tail_waits hs hc (by simpa using hn) inv _ i₀ rfl hi₀ hl₀ i h)
      obtain ⟨hiun, o, ho, hall⟩ := mem_ready.1 hi
      have ho' : l[i]? = some o := by simpa using ho
      have hst := hstep i o hin ho' listed a W (by rw [inv.size]; simp) hiun hGW hO (fun j oj d hj hoj hd ⟨e, he, hb, hon⟩ => hD j oj d hj hoj (by rw [← hon]; exact hall e he hb) hd)
      unfold wpOp
      simp only [ho]
      have hw : Region.wanted o (yielded l.toArray a.tmps) = true := by simp [Region.wanted, (hback' i o ho').2]
      rw [if_pos hw]
      refine .inl (Oper.wp_mono ?_ hst)
      rintro a' W' ⟨v, rfl, hDv, hRv, hGv⟩
      have hOut : Outer l n a₀ (a.put o.dst v) := by
        refine ⟨?_, ?_, fun t ht => ?_⟩
        · cases hd : o.dst <;> simp [Act.put, hO.defers]
        · cases hd : o.dst <;> simp [Act.put, hO.size]
        · cases hd : o.dst with
          | none => simpa [Act.put] using hO.same t ht
          | some d =>
            have hne : d ≠ t := fun h => ht i o hin ho' (by rw [hd, h])
            simp only [Act.put]
            rw [Array.getElem?_setIfInBounds_ne hne]
            exact hO.same t ht
      refine ih _ _ _ (inv.set hi hin) ?_ hGv hOut ?_
      · have hiun' : listed.getD i false = false := getD_both hiun
        have his : i < listed.size := by rw [inv.size]; simp; omega
        have e1 : ((List.range n).filter fun j => !(listed.setIfInBounds i true).getD j false) = ((List.range n).filter fun j => !listed.getD j false).filter (fun j => decide (j ≠ i)) := by
          rw [List.filter_filter]
          apply List.filter_congr
          intro j _
          by_cases hji : j = i
          · subst hji; simp [his]
          · rw [getD_set_ne false (Ne.symm hji)]; simp [hji]
        rw [e1]
        have hnd : ((List.range n).filter fun j => !listed.getD j false).Nodup := List.nodup_range.filter _
        have hmem : i ∈ ((List.range n).filter fun j => !listed.getD j false) := List.mem_filter.2 ⟨List.mem_range.2 hin, by simp [hiun']⟩
        have := filter_ne_length i _ hnd hmem
        omega
      · intro j oj d hj hoj hlj hd
        by_cases hji : j = i
        · subst hji
          have : oj = o := Option.some.inj (hoj.symm.trans ho')
          subst this
          have hds : d < a.tmps.size := by rw [hO.size]; exact hsz j oj d hj hoj hd
          rw [hd, slot_put_same hds]
          exact hDv
        · rw [getD_set_ne false (Ne.symm hji)] at hlj
          have hold := hDs i j _ W W' hin hji (hD j oj d hj hoj hlj hd) hRv
          cases hdo : o.dst with
          | none => simpa [Act.put] using hold
          | some d' =>
            have hne : d ≠ d' := fun h => hdst' j i oj o d hj hin hji hoj ho' hd (by rw [hdo, h])
            rw [slot_put_other hne]
            exact hold
  have inv0 : HeadInv .any l.toArray n (Array.replicate l.toArray.size false) :=
    ⟨by simp, fun j oj _ hl => (by rw [getD_replicate_false] at hl; cases hl), fun t _ ht => getD_in (by simpa using ht) (getD_replicate_false _ _)⟩
  have := key n _ a₀ w inv0 (by
    have : ((List.range n).filter fun i => !(Array.replicate l.toArray.size false).getD i false) = List.range n := List.filter_eq_self.2 (fun i _ => by rw [getD_replicate_false]; rfl)
    rw [this, List.length_range]) hG ⟨rfl, rfl, fun _ _ => rfl⟩ (fun j oj d _ _ hl => by rw [getD_replicate_false] at hl; cases hl)
  rw [show n + (l.length - n) = l.toArray.size by simp; omega] at this
  exact this

/-- What an operation may lean on: the words of those that come ahead of it. -/
def preds (l : List Oper) (D : Nat → Value → World → Prop) (a : Act) (W : World) : List Edge → Prop
  | [] => True
  | e :: es => (match Region.binds .any e, l[e.on]? with
      | true, some o => (match o.dst with
        | some d => D e.on (slotOf a d) W
        | none => True)
      | _, _ => True) ∧ preds l D a W es
/-- One operation of the head. -/
def stepOk (P : Program) (l : List Oper) (n : Nat) (Q : Exit → Act → World → Prop) (a₀ : Act) (w : World) (G : World → Prop) (Rl : World → World → Prop) (D : Nat → Value → World → Prop) (i : Nat) (o : Oper) : Prop :=
  ∀ a W, G W → Rl w W → Outer l n a₀ a → preds l D a W o.after.toList → o.wp P a W (fun a' W' => ∃ v, a' = a.put o.dst v ∧ D i v W' ∧ Rl W W' ∧ G W') Q
def stepsOk (P : Program) (l : List Oper) (n : Nat) (Q : Exit → Act → World → Prop) (a₀ : Act) (w : World) (G : World → Prop) (Rl : World → World → Prop) (D : Nat → Value → World → Prop) : Nat → List Oper → Prop
  | _, [] => True
  | i, o :: os => stepOk P l n Q a₀ w G Rl D i o ∧ stepsOk P l n Q a₀ w G Rl D (i + 1) os
/-- The words of the whole head. -/
def heads (D : Nat → Value → World → Prop) (a : Act) (W : World) : Nat → List Oper → Prop
  | _, [] => True
  | i, o :: os => (match o.dst with
      | some d => D i (slotOf a d) W
      | none => True) ∧ heads D a W (i + 1) os
def szOk (s : Nat) : List Oper → Bool
  | [] => true
  | o :: os => (match o.dst with
      | some d => decide (d < s)
      | none => true) && szOk s os

theorem preds_of {l : List Oper} {D : Nat → Value → World → Prop} {a : Act} {W : World} {n : Nat} (o : Oper) (hb : ∀ e ∈ o.after, Region.binds .any e = true → e.on < n)
    (h : ∀ (j : Nat) (oj : Oper) (d : Tmp), j < n → l[j]? = some oj → oj.dst = some d → (∃ e ∈ o.after, Region.binds .any e = true ∧ e.on = j) → D j (slotOf a d) W) : preds l D a W o.after.toList := by
  have : ∀ es : List Edge, (∀ e ∈ es, e ∈ o.after) → preds l D a W es := by
    intro es
    induction es with
    | nil => intro _; trivial
    | cons e es ih =>
      intro hes
      refine ⟨?_, ih fun e' he' => hes e' (List.mem_cons_of_mem _ he')⟩
      split
      · rename_i o' hbind ho'
        split
        · rename_i d hd
          exact h e.on o' d (hb e (hes e (by simp)) hbind) ho' hd ⟨e, hes e (by simp), hbind, rfl⟩
        · trivial
      · trivial
  exact this _ fun e he => by simpa using he
theorem steps_get {l : List Oper} {n : Nat} {Q : Exit → Act → World → Prop} {a₀ : Act} {w : World} {G : World → Prop} {Rl : World → World → Prop} {D : Nat → Value → World → Prop} : ∀ (os : List Oper) (k : Nat), stepsOk P l n Q a₀ w G Rl D k os → ∀ i o, os[i]? = some o → stepOk P l n Q a₀ w G Rl D (k + i) o
  | [], _, _, i, o, h => by simp at h
  | x :: os, k, hs, 0, o, h => by simp at h; subst h; exact hs.1
  | x :: os, k, hs, i + 1, o, h => by
    have := steps_get os (k + 1) hs.2 i o (by simpa using h)
    rw [show k + (i + 1) = k + 1 + i by omega]
    exact this
theorem heads_of {D : Nat → Value → World → Prop} {a : Act} {W : World} : ∀ (os : List Oper) (k : Nat), (∀ (j : Nat) (oj : Oper) (d : Tmp), os[j]? = some oj → oj.dst = some d → D (k + j) (slotOf a d) W) → heads D a W k os
  | [], _, _ => trivial
  | o :: os, k, h => by
    refine ⟨?_, heads_of os (k + 1) fun j oj d hj hd => ?_⟩
    · split
      · rename_i d hd
        exact h 0 o d rfl hd
      · trivial
    · have := h (j + 1) oj d (by simpa using hj) hd
      rw [show k + 1 + j = k + (j + 1) by omega]
      exact this
theorem sz_of {s : Nat} : ∀ (os : List Oper), szOk s os = true → ∀ (i : Nat) (o : Oper) (d : Tmp), os[i]? = some o → o.dst = some d → d < s
  | [], _, i, o, d, h, _ => by simp at h
  | x :: os, hs, 0, o, d, h, hd => by
    simp at h; subst h
    simp only [szOk, hd, Bool.and_eq_true, decide_eq_true_eq] at hs
    exact hs.1
  | x :: os, hs, i + 1, o, d, h, hd => by
    simp only [szOk, Bool.and_eq_true] at hs
    exact sz_of os hs.2 i o d (by simpa using h) hd

theorem region_words {l : List Oper} {n : Nat} {Q : Exit → Act → World → Prop} {a₀ : Act} {w : World} (hB : relB l n = true) (hz : szOk a₀.tmps.size (l.take n) = true)
    (G : World → Prop) (Rl : World → World → Prop) (D : Nat → Value → World → Prop)
    (hRt : ∀ {A B C : World}, Rl A B → Rl B C → Rl A C) (hDs : ∀ i v W W', D i v W → Rl W W' → D i v W')
    (hG : G w) (hR0 : Rl w w) (hstep : stepsOk P l n Q a₀ w G Rl D 0 (l.take n))
    (htail : ∀ a W, G W → Rl w W → Outer l n a₀ a → heads D a W 0 (l.take n) → wpList P l.toArray Q (l.drop n) a W) :
    wpAny P .any l.toArray Q l.toArray.size (Array.replicate l.toArray.size false) a₀ w := by
  have htake : ∀ (i : Nat) (o : Oper), i < n → l[i]? = some o → (l.take n)[i]? = some o := fun i o hi ho => by rw [List.getElem?_take, if_pos hi]; exact ho
  have hback : ∀ (i : Nat) (o : Oper), i < n → l[i]? = some o → ∀ e ∈ o.after, Region.binds .any e = true → e.on < n := by
    have hB' := hB
    simp only [relB, Bool.and_eq_true, decide_eq_true_eq] at hB'
    obtain ⟨⟨⟨⟨⟨_, _⟩, _⟩, hback⟩, _⟩, _⟩ := hB'
    intro i o hi ho e he hbd
    have := List.all_eq_true.1 hback i (List.mem_range.2 (List.getElem?_eq_some_iff.1 ho).1)
    simp only [ho, Bool.and_eq_true, Array.all_eq_true_iff_forall_mem] at this
    have h2 : e.on < i := by simpa [hbd] using this.1 e he
    omega
  refine region_rel_any hB (fun _ W => G W ∧ Rl w W) (fun _ => Rl) D (fun _ j v W W' _ _ => hDs j v W W') (fun i o d hi ho hd => sz_of _ hz i o d (htake i o hi ho) hd) ⟨hG, hR0⟩ ?_ ?_
  · rintro i o hi ho _ a W _ _ ⟨hGW, hRW⟩ hO hp
    have := steps_get _ _ hstep i o (htake i o hi ho)
    rw [Nat.zero_add] at this
    refine Oper.wp_mono ?_ (this a W hGW hRW hO (preds_of o (hback i o hi ho) hp))
    rintro a' W' ⟨v, h1, h2, h3, h4⟩
    exact ⟨v, h1, h2, h3, h4, hRt hRW h3⟩
  · rintro _ a W ⟨hGW, hRW⟩ hO hd
    refine htail a W hGW hRW hO (heads_of _ _ fun j oj d hj hdd => ?_)
    rw [List.getElem?_take] at hj
    split at hj
    · rename_i hjn
      rw [Nat.zero_add]
      exact hd j oj d hjn hj hdd
    · cases hj

/-- What comes behind the head, whatever values its operations have left. -/
def tailsOk (D : Nat → Value → World → Prop) (W : World) (K : Act → Prop) : Nat → List Oper → Act → Prop
  | _, [], a => K a
  | i, o :: os, a => match o.dst with
    | some d => ∀ v, D i v W → tailsOk D W K (i + 1) os (a.put (some d) v)
    | none => tailsOk D W K (i + 1) os a
/-- A frame, its head's slots filled anew. -/
def filled (a : Act) : List Oper → Act → Act
  | [], b => b
  | o :: os, b => match o.dst with
    | some d => filled a os (b.put (some d) (slotOf a d))
    | none => filled a os b
theorem tails_filled {D : Nat → Value → World → Prop} {W : World} {K : Act → Prop} {a : Act} : ∀ (os : List Oper) (k : Nat) (b : Act), heads D a W k os → tailsOk D W K k os b → K (filled a os b)
  | [], _, _, _, h => h
  | o :: os, k, b, hh, h => by
    obtain ⟨h1, h2⟩ := hh
    unfold tailsOk at h
    unfold filled
    cases hd : o.dst with
    | none => simp only [hd] at h ⊢; exact tails_filled os (k + 1) b h2 h
    | some d =>
      simp only [hd] at h h1 ⊢
      exact tails_filled os (k + 1) _ h2 (h _ h1)
theorem filled_defers {a : Act} : ∀ (os : List Oper) (b : Act), (filled a os b).defers = b.defers
  | [], _ => rfl
  | o :: os, b => by
    unfold filled
    cases hd : o.dst with
    | none => exact filled_defers os b
    | some d => exact (filled_defers os _).trans rfl
theorem filled_size {a : Act} : ∀ (os : List Oper) (b : Act), (filled a os b).tmps.size = b.tmps.size
  | [], _ => rfl
  | o :: os, b => by
    unfold filled
    cases hd : o.dst with
    | none => exact filled_size os b
    | some d => exact (filled_size os _).trans (by simp [Act.put])
theorem filled_get {a : Act} : ∀ (os : List Oper) (b : Act) (t : Nat), a.tmps.size = b.tmps.size → ((∃ o ∈ os, o.dst = some t) ∨ b.tmps[t]? = a.tmps[t]?) → (filled a os b).tmps[t]? = a.tmps[t]?
  | [], b, t, _, h => by
    rcases h with ⟨o, ho, _⟩ | h
    · cases ho
    · exact h
  | o :: os, b, t, hs, h => by
    unfold filled
    cases hd : o.dst with
    | none =>
      refine filled_get os b t hs ?_
      rcases h with ⟨o', ho', hd'⟩ | h
      · rcases List.mem_cons.1 ho' with rfl | ho'
        · rw [hd] at hd'; cases hd'
        · exact .inl ⟨o', ho', hd'⟩
      · exact .inr h
    | some d =>
      refine filled_get os _ t (by simp [Act.put, hs]) ?_
      by_cases htd : t = d
      · subst htd
        refine .inr ?_
        simp only [Act.put]
        rcases Nat.lt_or_ge t b.tmps.size with hlt | hge
        · rw [Array.getElem?_setIfInBounds_self_of_lt hlt]
          have hlt' : t < a.tmps.size := by omega
          simp [slotOf, hlt']
        · have h1 : (b.tmps.setIfInBounds t (slotOf a t)).size ≤ t := by simpa using hge
          rw [Array.getElem?_eq_none h1, Array.getElem?_eq_none (by omega)]
      · rcases h with ⟨o', ho', hd'⟩ | h
        · rcases List.mem_cons.1 ho' with rfl | ho'
          · rw [hd] at hd'; cases hd'; exact absurd rfl htd
          · exact .inl ⟨o', ho', hd'⟩
        · refine .inr ?_
          simp only [Act.put]
          rw [Array.getElem?_setIfInBounds_ne (Ne.symm htd)]
          exact h
theorem filled_eq {l : List Oper} {n : Nat} {a₀ a : Act} (hO : Outer l n a₀ a) : filled a (l.take n) a₀ = a := by
  have h1 : (filled a (l.take n) a₀).tmps = a.tmps := by
    apply Array.ext_getElem?
    intro t
    refine filled_get _ _ t hO.size ?_
    by_cases h : ∃ o ∈ l.take n, o.dst = some t
    · exact .inl h
    · refine .inr (hO.same t fun i o hi ho hd => h ⟨o, List.mem_of_getElem? (i := i) (by rw [List.getElem?_take, if_pos hi]; exact ho), hd⟩).symm
  have h2 := (filled_defers (a := a) (l.take n) a₀).trans hO.defers.symm
  generalize filled a (l.take n) a₀ = x at *
  cases x; cases a; simp_all

/-- A region that draws its order, by a word for each operation of its head. -/
theorem region_told {l : List Oper} (n : Nat) {Q : Exit → Act → World → Prop} {a₀ : Act} {w : World} (hB : relB l n = true) (hz : szOk a₀.tmps.size (l.take n) = true)
    (G : World → Prop) (Rl : World → World → Prop) (D : Nat → Value → World → Prop)
    (hRt : ∀ {A B C : World}, Rl A B → Rl B C → Rl A C) (hDs : ∀ i v W W', D i v W → Rl W W' → D i v W')
    (hG : G w) (hR0 : Rl w w) (hstep : stepsOk P l n Q a₀ w G Rl D 0 (l.take n))
    (htail : ∀ W, G W → Rl w W → tailsOk D W (fun a => wpList P l.toArray Q (l.drop n) a W) 0 (l.take n) a₀) :
    wpAny P .any l.toArray Q l.toArray.size (Array.replicate l.toArray.size false) a₀ w :=
  region_words hB hz G Rl D hRt hDs hG hR0 hstep fun a W hGW hRW hO hh => by
    have := tails_filled _ _ _ hh (htail W hGW hRW)
    rwa [filled_eq hO] at this

/-! ## The same, with a relation for each operation -/
def stepOk' (P : Program) (l : List Oper) (n : Nat) (Q : Exit → Act → World → Prop) (a₀ : Act) (m : Nat) (G G1 : World → Prop) (Rl : Nat → World → World → Prop) (D : Nat → Value → World → Prop) (i : Nat) (o : Oper) : Prop :=
  ∀ a W, G W → (i = m → G1 W) → Outer l n a₀ a → preds l D a W o.after.toList → o.wp P a W (fun a' W' => ∃ v, a' = a.put o.dst v ∧ D i v W' ∧ Rl i W W' ∧ G W' ∧ (i ≠ m → G1 W → G1 W')) Q
def stepsOk' (P : Program) (l : List Oper) (n : Nat) (Q : Exit → Act → World → Prop) (a₀ : Act) (m : Nat) (G G1 : World → Prop) (Rl : Nat → World → World → Prop) (D : Nat → Value → World → Prop) : Nat → List Oper → Prop
  | _, [] => True
  | i, o :: os => stepOk' P l n Q a₀ m G G1 Rl D i o ∧ stepsOk' P l n Q a₀ m G G1 Rl D (i + 1) os
theorem steps_get' {l : List Oper} {n : Nat} {Q : Exit → Act → World → Prop} {a₀ : Act} {m : Nat} {G G1 : World → Prop} {Rl : Nat → World → World → Prop} {D : Nat → Value → World → Prop} : ∀ (os : List Oper) (k : Nat), stepsOk' P l n Q a₀ m G G1 Rl D k os → ∀ i o, os[i]? = some o → stepOk' P l n Q a₀ m G G1 Rl D (k + i) o
  | [], _, _, i, o, h => by simp at h
  | x :: os, k, hs, 0, o, h => by simp at h; subst h; exact hs.1
  | x :: os, k, hs, i + 1, o, h => by
    have := steps_get' os (k + 1) hs.2 i o (by simpa using h)
    rw [show k + (i + 1) = k + 1 + i by omega]
    exact this
theorem region_tale {l : List Oper} (n : Nat) {Q : Exit → Act → World → Prop} {a₀ : Act} {w : World} (hB : relB l n = true) (hz : szOk a₀.tmps.size (l.take n) = true)
    (m : Nat) (G G1 : World → Prop) (Rl : Nat → World → World → Prop) (D : Nat → Value → World → Prop)
    (hDs : ∀ i j v W W', i < n → j ≠ i → D j v W → Rl i W W' → D j v W')
    (hmn : m < n) (hG : G w) (hG1 : G1 w) (hstep : stepsOk' P l n Q a₀ m G G1 Rl D 0 (l.take n))
    (htail : ∀ W, G W → tailsOk D W (fun a => wpList P l.toArray Q (l.drop n) a W) 0 (l.take n) a₀) :
    wpAny P .any l.toArray Q l.toArray.size (Array.replicate l.toArray.size false) a₀ w := by
  have htake : ∀ (i : Nat) (o : Oper), i < n → l[i]? = some o → (l.take n)[i]? = some o := fun i o hi ho => by rw [List.getElem?_take, if_pos hi]; exact ho
  have hback : ∀ (i : Nat) (o : Oper), i < n → l[i]? = some o → ∀ e ∈ o.after, Region.binds .any e = true → e.on < n := by
    have hB' := hB
    simp only [relB, Bool.and_eq_true, decide_eq_true_eq] at hB'
    obtain ⟨⟨⟨⟨⟨_, _⟩, _⟩, hback⟩, _⟩, _⟩ := hB'
    intro i o hi ho e he hbd
    have := List.all_eq_true.1 hback i (List.mem_range.2 (List.getElem?_eq_some_iff.1 ho).1)
    simp only [ho, Bool.and_eq_true, Array.all_eq_true_iff_forall_mem] at this
    have h2 : e.on < i := by simpa [hbd] using this.1 e he
    omega
  have hn : n < l.length := by
    have hB' := hB
    simp only [relB, Bool.and_eq_true, decide_eq_true_eq] at hB'
    exact hB'.1.1.1.1.1
  refine region_rel_any hB (fun listed W => G W ∧ (listed.getD m true = false → G1 W)) Rl D hDs (fun i o d hi ho hd => sz_of _ hz i o d (htake i o hi ho) hd) ⟨hG, fun _ => hG1⟩ ?_ ?_
  · rintro i o hi ho listed a W hsz hun ⟨hGW, hG1W⟩ hO hp
    have := steps_get' _ _ hstep i o (htake i o hi ho)
    rw [Nat.zero_add] at this
    refine Oper.wp_mono ?_ (this a W hGW (fun e => hG1W (e ▸ hun)) hO (preds_of o (hback i o hi ho) hp))
    rintro a' W' ⟨v, h1, h2, h3, h4, h5⟩
    refine ⟨v, h1, h2, h3, h4, fun hm => ?_⟩
    by_cases him : i = m
    · subst him
      rw [show (listed.setIfInBounds i true).getD i true = true by simp [hsz, show i < l.length by omega]] at hm
      cases hm
    · rw [getD_set_ne true him] at hm
      exact h5 him (hG1W hm)
  · rintro _ a W ⟨hGW, _⟩ hO hd
    have := tails_filled _ _ _ (heads_of (D := D) (a := a) (W := W) (l.take n) 0 fun j oj d hj hdd => by
      rw [List.getElem?_take] at hj
      split at hj
      · rename_i hjn
        rw [Nat.zero_add]
        exact hd j oj d hjn hj hdd
      · cases hj) (htail W hGW)
    rwa [filled_eq hO] at this

/-- A region outside of rounds, at the fence that lets all in. -/
theorem wpIn_of_wp0 {o : Oper} {n : Nat} {a : Act} {w : World} {Q' : Act → World → Prop} {Q : Exit → Act → World → Prop} {K : Act → World → Prop} (h : o.wp P a w K (onlyN Q')) :
    o.wpIn Fence.wide n P a w K Q := by
  refine ⟨fun _ _ => trivial, ?_⟩
  show o.uponIn Fence.wide n P a K Q ((execOp a.eval o).run P w)
  unfold Oper.wp at h
  generalize (execOp a.eval o).run P w = r at *
  cases r with
  | ok x w' =>
    cases x <;> simp only [Oper.upon, Oper.uponIn] at h ⊢ <;>
      first
        | exact h
        | exact h.elim
        | exact ⟨fun hh => (by simp [Fence.wide] at hh), callsIn_wide.2 (h.mono (fun e w'' he => by cases e <;> first | exact he | exact he.elim | exact (onlyN_not _ he).elim))⟩
        | exact ⟨fun hh => (by simp [Fence.wide] at hh), fun c cs _ => let ⟨v, w3, hr, hs⟩ := h c cs; ⟨v, w3, hr, stepsIn_wide.2 hs⟩⟩
  | halt x w' =>
    cases x <;> simp only [Oper.upon, Oper.uponIn] at h ⊢ <;> exact h.elim
theorem wpAnyIn_of_any0 {n : Nat} {md : Region.Mode} {ops : Array Oper} {Q' : Act → World → Prop} {Q : Exit → Act → World → Prop} (hQ : ∀ a w, Q' a w → Q .normal a w) :
    ∀ (fuel : Nat) (listed : Array Bool) (a : Act) (w : World), wpAny P md ops (onlyN Q') fuel listed a w → wpAnyIn Fence.wide n P md ops Q fuel listed a w
  | 0, _, a, w, h => ⟨h.1, hQ _ _ h.2⟩
  | fuel + 1, listed, a, w, h => by
    refine ⟨fun hr => hQ _ _ (h.1 hr), fun i hi => ?_⟩
    have h2 := h.2 i hi
    unfold wpOp at h2
    unfold wpOpIn
    cases ho : ops[i]? with
    | none => simp only [ho] at h2 ⊢; exact wpAnyIn_of_any0 hQ fuel _ _ _ h2
    | some o =>
      simp only [ho] at h2 ⊢
      split
      · rename_i hw
        rw [if_pos hw] at h2
        rcases h2 with h2 | ⟨_, h2⟩
        · exact Oper.wpIn_mono (fun a w hk => wpAnyIn_of_any0 hQ fuel _ _ _ hk) (wpIn_of_wp0 h2)
        · exact (onlyN_not _ h2).elim
      · rename_i hw
        rw [if_neg hw] at h2
        exact ⟨fun _ _ => trivial, wpAnyIn_of_any0 hQ fuel _ _ _ h2⟩
theorem outer_words {n id : Nat} {l : List Oper} {Q' : Act → World → Prop} {Q : Exit → Act → World → Prop} {a₀ : Act} {w : World} (hm : P.follows .mixedOrders = true) (hQ : ∀ a w, Q' a w → Q .normal a w)
    (h : wpAny P .any l.toArray (onlyN Q') l.toArray.size (Array.replicate l.toArray.size false) a₀ w.drew) : (Code.region id l.toArray true).wpIn Fence.wide n P Q a₀ w :=
  wpIn_region_any hm (wpAnyIn_of_any0 hQ _ _ _ _ h)
theorem onlyN_intro {Q : Act → World → Prop} {a : Act} {w : World} (h : Q a w) : onlyN Q .normal a w := h

theorem wp_words {id : Nat} {l : List Oper} {Q : Exit → Act → World → Prop} {a₀ : Act} {w : World} (hm : P.follows .mixedOrders = true)
    (h : wpAny P .any l.toArray Q l.toArray.size (Array.replicate l.toArray.size false) a₀ w.drew) : (Code.region id l.toArray true).wp P Q a₀ w := wp_region_any hm h
theorem round_words {r n id : Nat} {l : List Oper} {Q' : Act → World → Prop} {Q : Exit → Act → World → Prop} {a₀ : Act} {w : World} (hm : P.follows .mixedOrders = true) (hd : l.toArray.all Oper.noDefer = true) (hQ : ∀ a w, Q' a w → Q .normal a w)
    (h : wpAny P .any l.toArray (onlyN Q') l.toArray.size (Array.replicate l.toArray.size false) a₀ w.drew) : (Code.region id l.toArray true).wpIn (Fence.wide.inRound r) n P Q a₀ w :=
  wpIn_region_any hm (wpAnyIn_of_any hQ hd _ _ _ _ h)

/-- An operation that yields a value and leaves the world alone. -/
theorem wp_yields {o : Oper} {a : Act} {W : World} {K : Act → World → Prop} {Q : Exit → Act → World → Prop} {v : Value} (h : (execOp a.eval o).run P W = .ok (.value v) W) (hk : K (a.put o.dst v) W) : o.wp P a W K Q := by
  unfold Oper.wp
  rw [h]
  exact hk
theorem wp_makes {o : Oper} {a : Act} {W W' : World} {K : Act → World → Prop} {Q : Exit → Act → World → Prop} {v : Value} (h : (execOp a.eval o).run P W = .ok (.value v) W') (hk : K (a.put o.dst v) W') : o.wp P a W K Q := by
  unfold Oper.wp
  rw [h]
  exact hk
theorem wp_enters {o : Oper} {a : Act} {W : World} {K : Act → World → Prop} {Q : Exit → Act → World → Prop} {f : FuncId} {args : Array Value} (h : (execOp a.eval o).run P W = .ok (.enter f args) W)
    (hc : Calls P f args W fun e W' => ∃ v, e = .returned v ∧ K (a.put o.dst v) W') : o.wp P a W K Q := by
  unfold Oper.wp
  rw [h]
  refine hc.mono ?_
  rintro e W' ⟨v, rfl, hk⟩
  exact hk
theorem Outer.slot {l : List Oper} {n : Nat} {a₀ a : Act} (h : Outer l n a₀ a) (t : Nat) (ht : ((l.take n).all fun o => o.dst != some t) = true) : slotOf a t = slotOf a₀ t := by
  unfold slotOf
  rw [h.same t fun i o hi ho hd => ?_]
  have := List.all_eq_true.1 ht o (List.mem_of_getElem? (i := i) (by rw [List.getElem?_take, if_pos hi]; exact ho))
  simp [hd] at this

/-! ## Words of operations, in a list -/
def pickD : List (Value → World → Prop) → Nat → Value → World → Prop
  | [], _, _, _ => True
  | p :: _, 0, v, W => p v W
  | _ :: ps, i + 1, v, W => pickD ps i v W
def allStable (R : World → World → Prop) : List (Value → World → Prop) → Prop
  | [] => True
  | p :: ps => (∀ v W W', p v W → R W W' → p v W') ∧ allStable R ps
theorem pickD_stable {R : World → World → Prop} : ∀ (ps : List (Value → World → Prop)), allStable R ps → ∀ i v W W', pickD ps i v W → R W W' → pickD ps i v W'
  | [], _, _, _, _, _, _, _ => trivial
  | _ :: _, hs, 0, v, W, W', h, hr => hs.1 v W W' h hr
  | _ :: ps, hs, i + 1, v, W, W', h, hr => pickD_stable ps hs.2 i v W W' h hr
/-- The operation leaves just this value. -/
abbrev vIs (x : Value) (v : Value) (_ : World) : Prop := v = x
theorem vIs_st {R : World → World → Prop} {x : Value} : ∀ v W W', vIs x v W → R W W' → vIs x v W' := fun _ _ _ h _ => h
/-- Memory has been made, nothing that lay has turned. -/
abbrev newer (W W' : World) : Prop := Below W.heap.size W W'
theorem newer_trans {A B C : World} (h : newer A B) (k : newer B C) : newer A C := h.trans (k.mono h.size)
end Go.Proofs.Yteonkhohloabfaa
