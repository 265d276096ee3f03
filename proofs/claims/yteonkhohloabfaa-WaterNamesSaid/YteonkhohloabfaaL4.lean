/- A region that draws its order, by words that live until one operation takes them. -/
import Derived.Test.YteonkhohloabfaaL
namespace Go.Proofs.Yteonkhohloabfaa
open Go.RowKit
variable {P : Program}

/-- Does operation j wait for operation k? -/
def edgeB (l : List Oper) (j k : Nat) : Bool := match l[j]? with
  | some o => o.after.toList.any (fun e => Region.binds .any e && e.on == k)
  | none => false
theorem edge_of {l : List Oper} {j k : Nat} (h : edgeB l j k = true) : ∃ o, l[j]? = some o ∧ ∃ e ∈ o.after, Region.binds .any e = true ∧ e.on = k := by
  unfold edgeB at h
  cases hj : l[j]? with
  | none => rw [hj] at h; cases h
  | some o =>
    rw [hj] at h
    simp only [List.any_eq_true, Bool.and_eq_true, beq_iff_eq] at h
    obtain ⟨e, he, hb, hon⟩ := h
    exact ⟨o, rfl, e, Array.mem_toList_iff.1 he, hb, hon⟩
theorem region_live_any {l : List Oper} {n : Nat} {Q : Exit → Act → World → Prop} {a₀ : Act} {w : World} (hB : relB l n = true)
    (G : Array Bool → World → Prop) (Rl : Nat → World → World → Prop) (D : Array Bool → Nat → Value → World → Prop)
    (hDs : ∀ (listed : Array Bool) i j v W W', i < n → j ≠ i → listed.size = l.length → listed.getD i false = false → listed.getD j false = true → (∀ k, edgeB l i k = true → listed.getD k false = true) → (∀ j k, j < n → edgeB l j k = true → listed.getD j false = true → listed.getD k false = true) →
      D listed j v W → Rl i W W' → D (listed.setIfInBounds i true) j v W')
    (hsz : ∀ i o d, i < n → l[i]? = some o → o.dst = some d → d < a₀.tmps.size)
    (hG : G (Array.replicate l.toArray.size false) w)
    (hstep : ∀ i o, i < n → l[i]? = some o → ∀ (listed : Array Bool) a W, listed.size = l.length → listed.getD i true = false → G listed W → Outer l n a₀ a →
      (∀ j oj d, j < n → l[j]? = some oj → oj.dst = some d → (∃ e ∈ o.after, Region.binds .any e = true ∧ e.on = j) → D listed j (slotOf a d) W) →
      o.wp P a W (fun a' W' => ∃ v, a' = a.put o.dst v ∧ D (listed.setIfInBounds i true) i v W' ∧ Rl i W W' ∧ G (listed.setIfInBounds i true) W') Q)
    (htail : ∀ (listed : Array Bool) a W, G listed W → Outer l n a₀ a → (∀ j oj d, j < n → l[j]? = some oj → oj.dst = some d → D listed j (slotOf a d) W) → wpList P l.toArray Q (l.drop n) a W) :
    wpAny P .any l.toArray Q l.toArray.size (Array.replicate l.toArray.size false) a₀ w := by
  simp only [relB, Bool.and_eq_true, decide_eq_true_eq] at hB
  obtain ⟨⟨⟨⟨⟨hn, hs⟩, hc⟩, hback⟩, hdst⟩, hseq⟩ := hB
  have hback' : ∀ (i : Nat) (o : Oper), l[i]? = some o → (∀ e ∈ o.after, Region.binds .any e = true → e.on < i) ∧ o.guard = none := by
    intro i o ho
    have := List.all_eq_true.1 hback i (List.mem_range.2 (List.getElem?_eq_some_iff.1 ho).1)
    simp only [ho, Bool.and_eq_true, Array.all_eq_true_iff_forall_mem] at this
    exact ⟨fun e he hb => by simpa [hb] using this.1 e he, by simpa using this.2⟩
  have hdst' : ∀ (i j : Nat) (o o' : Oper) (d : Tmp), i < n → j < n → i ≠ j → l[i]? = some o → l[j]? = some o' → o.dst = some d → o'.dst ≠ some d := by
    intro i j o o' d hi hj hij ho ho' hd hd'
    have := List.all_eq_true.1 (List.all_eq_true.1 hdst i (List.mem_range.2 hi)) j (List.mem_range.2 hj)
    simp [hij, ho, ho', hd, hd'] at this
  have key : ∀ (f : Nat) (listed : Array Bool) (a : Act) (W : World), HeadInv .any l.toArray n listed → ((List.range n).filter fun i => !listed.getD i false).length = f →
      G listed W → Outer l n a₀ a → (∀ (j : Nat) (oj : Oper) (d : Tmp), j < n → l[j]? = some oj → listed.getD j false = true → oj.dst = some d → D listed j (slotOf a d) W) →
      wpAny P .any l.toArray Q (f + (l.length - n)) listed a W := by
    intro f
    induction f with
    | zero =>
      intro listed a W inv hcnt hGW hO hD
      have hall : ∀ i, i < n → listed.getD i false = true := by
        intro i hi
        have := List.eq_nil_of_length_eq_zero hcnt
        have h2 := List.filter_eq_nil_iff.1 this i (List.mem_range.2 hi)
        simpa using h2
      have hcanon : listed = headDone n l.length := by
        apply Array.ext
        · rw [inv.size]; simp [headDone]
        · intro i h1 h2
          have hi : i < l.length := by simpa [headDone] using h2
          simp only [headDone, Array.getElem_ofFn]
          by_cases hin : i < n
          · have := hall i hin
            simp [h1] at this
            simp [this, hin]
          · have := inv.tail i (by omega) (by simpa using hi)
            simp [h1] at this
            simp [this, hin]
      rw [Nat.zero_add]
      have := wpAny_of_seq (md := .any) (Q' := Q) (P := P) (ops := l.toArray) (l.drop n) n listed a W (fun j => by simp [List.getElem?_drop]) (by rw [List.length_drop, hcanon]; exact hseq) (htail listed a W hGW hO (fun j oj d hj ho hd => hD j oj d hj ho (hall j hj) hd))
      rwa [List.length_drop] at this
    | succ f ih =>
      intro listed a W inv hcnt hGW hO hD
      -- some operation of the head has not come up
      have hex : ∃ i, i < n ∧ listed.getD i false = false ∧ ∀ j, j < i → listed.getD j false = true := by
        have hne : ((List.range n).filter fun i => !listed.getD i false) ≠ [] := by intro h; rw [h] at hcnt; cases hcnt
        have : ∃ i, i < n ∧ listed.getD i false = false := by
          obtain ⟨x, hx⟩ := List.exists_mem_of_ne_nil _ hne
          have hx' := List.mem_filter.1 hx
          exact ⟨x, List.mem_range.1 hx'.1, by simpa using hx'.2⟩
        obtain ⟨i, hi, hl⟩ := this
        have : ∀ k i, i ≤ k → i < n → listed.getD i false = false → ∃ i, i < n ∧ listed.getD i false = false ∧ ∀ j, j < i → listed.getD j false = true := by
          intro k
          induction k with
          | zero => intro i hik hi hl; exact ⟨i, hi, hl, fun j hj => by omega⟩
          | succ k ihk =>
            intro i hik hi hl
            by_cases h : ∃ j, j < i ∧ listed.getD j false = false
            · obtain ⟨j, hj, hjl⟩ := h
              exact ihk j (by omega) (by omega) hjl
            · refine ⟨i, hi, hl, fun j hj => ?_⟩
              cases hh : listed.getD j false with
              | true => rfl
              | false => exact absurd ⟨j, hj, hh⟩ h
        exact this i i (Nat.le_refl _) hi hl
      obtain ⟨i₀, hi₀, hun₀, hbelow⟩ := hex
      have hi₀s : i₀ < listed.size := by rw [inv.size]; simp; omega
      have hl₀ : listed.getD i₀ true = false := getD_in hi₀s hun₀
      have hready₀ : i₀ ∈ Region.ready .any l.toArray listed := by
        have ho : l[i₀]? = some l[i₀] := List.getElem?_eq_getElem (by omega)
        refine mem_ready.2 ⟨hl₀, l[i₀], by simp, fun e he hb => hbelow _ ((hback' i₀ _ ho).1 e he hb)⟩
      rw [show f + 1 + (l.length - n) = f + (l.length - n) + 1 by omega]
      refine ⟨fun h => (by rw [h] at hready₀; cases hready₀), fun i hi => ?_⟩
      have hin : i < n := by
        rcases Nat.lt_or_ge i n with h | h
        · exact h
        · exact absurd hi (tail_waits hs hc (by simpa using hn) inv _ i₀ rfl hi₀ hl₀ i h)
      obtain ⟨hiun, o, ho, hall⟩ := mem_ready.1 hi
      have ho' : l[i]? = some o := by simpa using ho
      have hst := hstep i o hin ho' listed a W (by rw [inv.size]; simp) hiun hGW hO (fun j oj d hj hoj hd ⟨e, he, hb, hon⟩ => hD j oj d hj hoj (by rw [← hon]; exact hall e he hb) hd)
      unfold wpOp
      simp only [ho]
      have hw : Region.wanted o (yielded l.toArray a.tmps) = true := by simp [Region.wanted, (hback' i o ho').2]
      rw [if_pos hw]
      refine .inl (Oper.wp_mono ?_ hst)
      rintro a' W' ⟨v, rfl, hDv, hRv, hGv⟩
      have hOut : Outer l n a₀ (a.put o.dst v) := by
        refine ⟨?_, ?_, fun t ht => ?_⟩
        · cases hd : o.dst <;> simp [Act.put, hO.defers]
        · cases hd : o.dst <;> simp [Act.put, hO.size]
        · cases hd : o.dst with
          | none => simpa [Act.put] using hO.same t ht
          | some d =>
            have hne : d ≠ t := fun h => ht i o hin ho' (by rw [hd, h])
            simp only [Act.put]
            rw [Array.getElem?_setIfInBounds_ne hne]
            exact hO.same t ht
      refine ih _ _ _ (inv.set hi hin) ?_ hGv hOut ?_
      · have hiun' : listed.getD i false = false := getD_both hiun
        have his : i < listed.size := by rw [inv.size]; simp; omega
        have e1 : ((List.range n).filter fun j => !(listed.setIfInBounds i true).getD j false) = ((List.range n).filter fun j => !listed.getD j false).filter (fun j => decide (j ≠ i)) := by
          rw [List.filter_filter]
          apply List.filter_congr
          intro j _
          by_cases hji : j = i
          · subst hji; simp [his]
          · rw [getD_set_ne false (Ne.symm hji)]; simp [hji]
        rw [e1]
        have hnd : ((List.range n).filter fun j => !listed.getD j false).Nodup := List.nodup_range.filter _
        have hmem : i ∈ ((List.range n).filter fun j => !listed.getD j false) := List.mem_filter.2 ⟨List.mem_range.2 hin, by simp [hiun']⟩
        have := filter_ne_length i _ hnd hmem
        omega
      · intro j oj d hj hoj hlj hd
        by_cases hji : j = i
        · subst hji
          have : oj = o := Option.some.inj (hoj.symm.trans ho')
          subst this
          have hds : d < a.tmps.size := by rw [hO.size]; exact hsz j oj d hj hoj hd
          rw [hd, slot_put_same hds]
          exact hDv
        · rw [getD_set_ne false (Ne.symm hji)] at hlj
          have hold := hDs listed i j _ W W' hin hji (by rw [inv.size]; simp) (getD_both hiun) hlj (fun k hk => by
            obtain ⟨o2, ho2, e, he, hb, hon⟩ := edge_of hk
            rw [ho'] at ho2
            cases ho2
            rw [← hon]
            exact hall e he hb) (fun j2 k hj2 hk hl2 => by
            obtain ⟨o2, ho2, e, he, hb, hon⟩ := edge_of hk
            rw [← hon]
            exact inv.closed j2 o2 (by simpa using ho2) hl2 e he hb) (hD j oj d hj hoj hlj hd) hRv
          cases hdo : o.dst with
          | none => simpa [Act.put] using hold
          | some d' =>
            have hne : d ≠ d' := fun h => hdst' j i oj o d hj hin hji hoj ho' hd (by rw [hdo, h])
            rw [slot_put_other hne]
            exact hold
  have inv0 : HeadInv .any l.toArray n (Array.replicate l.toArray.size false) :=
    ⟨by simp, fun j oj _ hl => (by rw [getD_replicate_false] at hl; cases hl), fun t _ ht => getD_in (by simpa using ht) (getD_replicate_false _ _)⟩
  have := key n _ a₀ w inv0 (by
    have : ((List.range n).filter fun i => !(Array.replicate l.toArray.size false).getD i false) = List.range n := List.filter_eq_self.2 (fun i _ => by rw [getD_replicate_false]; rfl)
    rw [this, List.length_range]) hG ⟨rfl, rfl, fun _ _ => rfl⟩ (fun j oj d _ _ hl => by rw [getD_replicate_false] at hl; cases hl)
  rw [show n + (l.length - n) = l.toArray.size by simp; omega] at this
  exact this


/-- Which operation takes a word. -/
def pickK : List (Option Nat) → Nat → Option Nat
  | [], _ => none
  | k :: _, 0 => k
  | _ :: ks, j + 1 => pickK ks j
/-- A word that lives until its operation has come. -/
def liveD (ks : List (Option Nat)) (D : Nat → Value → World → Prop) (listed : Array Bool) (j : Nat) (v : Value) (W : World) : Prop := match pickK ks j with
  | none => D j v W
  | some k => listed.getD k false = false → D j v W
/-- What is left of the words at the end. -/
def lastD (ks : List (Option Nat)) (D : Nat → Value → World → Prop) (j : Nat) (v : Value) (W : World) : Prop := match pickK ks j with
  | none => D j v W
  | some _ => True
def predsL (l : List Oper) (D : Nat → Value → World → Prop) (a : Act) (W : World) : List Edge → Prop
  | [] => True
  | e :: es => (match Region.binds .any e, l[e.on]? with
      | true, some o => (match o.dst with
        | some d => D e.on (slotOf a d) W
        | none => True)
      | _, _ => True) ∧ predsL l D a W es
def stepOkL (P : Program) (l : List Oper) (n : Nat) (Q : Exit → Act → World → Prop) (a₀ : Act) (G : World → Prop) (Rl : Nat → World → World → Prop) (ks : List (Option Nat)) (D : Nat → Value → World → Prop) (i : Nat) (o : Oper) : Prop :=
  ∀ (listed : Array Bool) a W, listed.getD i false = false → G W → Outer l n a₀ a → predsL l (liveD ks D listed) a W o.after.toList → o.wp P a W (fun a' W' => ∃ v, a' = a.put o.dst v ∧ D i v W' ∧ Rl i W W' ∧ G W') Q
def stepsOkL (P : Program) (l : List Oper) (n : Nat) (Q : Exit → Act → World → Prop) (a₀ : Act) (G : World → Prop) (Rl : Nat → World → World → Prop) (ks : List (Option Nat)) (D : Nat → Value → World → Prop) : Nat → List Oper → Prop
  | _, [] => True
  | i, o :: os => stepOkL P l n Q a₀ G Rl ks D i o ∧ stepsOkL P l n Q a₀ G Rl ks D (i + 1) os
theorem steps_getL {l : List Oper} {n : Nat} {Q : Exit → Act → World → Prop} {a₀ : Act} {G : World → Prop} {Rl : Nat → World → World → Prop} {ks : List (Option Nat)} {D : Nat → Value → World → Prop} : ∀ (os : List Oper) (k : Nat), stepsOkL P l n Q a₀ G Rl ks D k os → ∀ i o, os[i]? = some o → stepOkL P l n Q a₀ G Rl ks D (k + i) o
  | [], _, _, i, o, h => by simp at h
  | x :: os, k, hs, 0, o, h => by simp at h; subst h; exact hs.1
  | x :: os, k, hs, i + 1, o, h => by
    have := steps_getL os (k + 1) hs.2 i o (by simpa using h)
    rw [show k + (i + 1) = k + 1 + i by omega]
    exact this
theorem predsL_of {l : List Oper} {D : Nat → Value → World → Prop} {a : Act} {W : World} {n : Nat} (o : Oper) (hb : ∀ e ∈ o.after, Region.binds .any e = true → e.on < n)
    (h : ∀ (j : Nat) (oj : Oper) (d : Tmp), j < n → l[j]? = some oj → oj.dst = some d → (∃ e ∈ o.after, Region.binds .any e = true ∧ e.on = j) → D j (slotOf a d) W) : predsL l D a W o.after.toList := by
  have : ∀ es : List Edge, (∀ e ∈ es, e ∈ o.after) → predsL l D a W es := by
    intro es
    induction es with
    | nil => intro _; trivial
    | cons e es ih =>
      intro hes
      refine ⟨?_, ih fun e' he' => hes e' (List.mem_cons_of_mem _ he')⟩
      split
      · rename_i o' hbind ho'
        split
        · rename_i d hd
          exact h e.on o' d (hb e (hes e (by simp)) hbind) ho' hd ⟨e, hes e (by simp), hbind, rfl⟩
        · trivial
      · trivial
  exact this _ fun e he => by simpa using he

/-- All words that nobody takes abide R. -/
def permOk (R : World → World → Prop) : List (Option Nat) → List (Value → World → Prop) → Prop
  | _, [] => True
  | ks, p :: ps => (match ks with
      | some _ :: _ => True
      | _ => ∀ v W W', p v W → R W W' → p v W') ∧ permOk R ks.tail ps
theorem permOk_get {R : World → World → Prop} : ∀ (ks : List (Option Nat)) (ps : List (Value → World → Prop)), permOk R ks ps → ∀ j, pickK ks j = none → ∀ v W W', pickD ps j v W → R W W' → pickD ps j v W'
  | _, [], _, _, _, _, _, _, _, _ => trivial
  | [], p :: ps, h, 0, _, v, W, W', hp, hr => h.1 v W W' hp hr
  | [], p :: ps, h, j + 1, _, v, W, W', hp, hr => permOk_get [] ps h.2 j rfl v W W' hp hr
  | none :: ks, p :: ps, h, 0, _, v, W, W', hp, hr => h.1 v W W' hp hr
  | none :: ks, p :: ps, h, j + 1, hk, v, W, W', hp, hr => permOk_get ks ps h.2 j hk v W W' hp hr
  | some _ :: ks, p :: ps, _, 0, hk, _, _, _, _, _ => by cases hk
  | some _ :: ks, p :: ps, h, j + 1, hk, v, W, W', hp, hr => permOk_get ks ps h.2 j hk v W W' hp hr
/-- The words that are taken, and by whom. -/
def pairsK : Nat → List (Option Nat) → List (Nat × Nat)
  | _, [] => []
  | i, none :: ks => pairsK (i + 1) ks
  | i, some k :: ks => (i, k) :: pairsK (i + 1) ks
theorem pickK_pairs : ∀ (ks : List (Option Nat)) (i j k : Nat), pickK ks j = some k → (i + j, k) ∈ pairsK i ks
  | [], _, _, _, h => by cases h
  | none :: ks, i, 0, _, h => by cases h
  | none :: ks, i, j + 1, k, h => by
    have := pickK_pairs ks (i + 1) j k h
    rw [show i + (j + 1) = i + 1 + j by omega]
    exact this
  | some x :: ks, i, 0, k, h => by cases h; exact List.mem_cons_self
  | some x :: ks, i, j + 1, k, h => by
    have := pickK_pairs ks (i + 1) j k h
    rw [show i + (j + 1) = i + 1 + j by omega]
    exact List.mem_cons_of_mem _ this
/-- Operations a and b turn memory from block H on, all others make memory alone. -/
def relTwo (H a b i : Nat) : World → World → Prop := match Nat.beq i a || Nat.beq i b with
  | true => Below H
  | false => newer

theorem region_live {l : List Oper} (n : Nat) {Q : Exit → Act → World → Prop} {a₀ : Act} {w : World} (hB : relB l n = true) (hz : szOk a₀.tmps.size (l.take n) = true)
    (G : World → Prop) (Rl : Nat → World → World → Prop) (ks : List (Option Nat)) (D : Nat → Value → World → Prop)
    (hDs : ∀ (listed : Array Bool) i j v W W', i < n → j ≠ i → listed.getD i false = false → listed.getD j false = true → (∀ k, edgeB l i k = true → listed.getD k false = true) → (∀ j k, j < n → edgeB l j k = true → listed.getD j false = true → listed.getD k false = true) →
      (∀ k, pickK ks j = some k → k ≠ i ∧ listed.getD k false = false) → D j v W → Rl i W W' → D j v W')
    (hG : G w) (hstep : stepsOkL P l n Q a₀ G Rl ks D 0 (l.take n))
    (htail : ∀ W, G W → tailsOk (lastD ks D) W (fun a => wpList P l.toArray Q (l.drop n) a W) 0 (l.take n) a₀) :
    wpAny P .any l.toArray Q l.toArray.size (Array.replicate l.toArray.size false) a₀ w := by
  have htake : ∀ (i : Nat) (o : Oper), i < n → l[i]? = some o → (l.take n)[i]? = some o := fun i o hi ho => by rw [List.getElem?_take, if_pos hi]; exact ho
  have hback : ∀ (i : Nat) (o : Oper), i < n → l[i]? = some o → ∀ e ∈ o.after, Region.binds .any e = true → e.on < n := by
    have hB' := hB
    simp only [relB, Bool.and_eq_true, decide_eq_true_eq] at hB'
    obtain ⟨⟨⟨⟨⟨_, _⟩, _⟩, hback⟩, _⟩, _⟩ := hB'
    intro i o hi ho e he hbd
    have := List.all_eq_true.1 hback i (List.mem_range.2 (List.getElem?_eq_some_iff.1 ho).1)
    simp only [ho, Bool.and_eq_true, Array.all_eq_true_iff_forall_mem] at this
    have h2 : e.on < i := by simpa [hbd] using this.1 e he
    omega
  refine region_live_any hB (fun _ W => G W) Rl (liveD ks D) ?_ (fun i o d hi ho hd => sz_of _ hz i o d (htake i o hi ho) hd) hG ?_ ?_
  · intro listed i j v W W' hi hj hsz hui hlj hpi hcl hD hR
    unfold liveD at hD ⊢
    cases hk : pickK ks j with
    | none =>
      rw [hk] at hD
      exact hDs listed i j v W W' hi hj hui hlj hpi hcl (fun k h => by rw [hk] at h; cases h) hD hR
    | some k =>
      rw [hk] at hD
      intro hun
      have hki : k ≠ i := by
        rintro rfl
        rw [show (listed.setIfInBounds k true).getD k false = true by
          have hlt : k < listed.size := by rw [hsz]; have hB' := hB; simp only [relB, Bool.and_eq_true, decide_eq_true_eq] at hB'; omega
          simp [hlt]] at hun
        cases hun
      rw [getD_set_ne false (Ne.symm hki)] at hun
      exact hDs listed i j v W W' hi hj hui hlj hpi hcl (fun k' h => by rw [hk] at h; cases h; exact ⟨hki, hun⟩) (hD hun) hR
  · rintro i o hi ho listed a W hsz hun hGW hO hp
    have := steps_getL _ _ hstep i o (htake i o hi ho)
    rw [Nat.zero_add] at this
    refine Oper.wp_mono ?_ (this listed a W (getD_both hun) hGW hO (predsL_of o (hback i o hi ho) hp))
    rintro a' W' ⟨v, h1, h2, h3, h4⟩
    refine ⟨v, h1, ?_, h3, h4⟩
    unfold liveD
    cases pickK ks i with
    | none => exact h2
    | some k => exact fun _ => h2
  · rintro listed a W hGW hO hd
    have := tails_filled _ _ _ (heads_of (D := lastD ks D) (a := a) (W := W) (l.take n) 0 fun j oj d hj hdd => by
      rw [List.getElem?_take] at hj
      split at hj
      · rename_i hjn
        rw [Nat.zero_add]
        have h := hd j oj d hjn hj hdd
        unfold liveD at h
        unfold lastD
        cases hk : pickK ks j with
        | none => rw [hk] at h; exact h
        | some k => trivial
      · cases hj) (htail W hGW)
    rwa [filled_eq hO] at this
end Go.Proofs.Yteonkhohloabfaa
