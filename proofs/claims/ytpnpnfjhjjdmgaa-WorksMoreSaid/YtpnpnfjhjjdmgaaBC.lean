/- The best plan is one that suffices, and none that does costs less; no bound that shares prove is above: plain laws. -/
import Derived.Test.YtpnpnfjhjjdmgaaBA
import Derived.Test.YtpnpnfjhjjdmgaaAK
namespace Go.Proofs.Ytpnpnfjhjjdmgaa

theorem mem_ends {q : Pj} : ∀ (r : Nat) (l plan : List Int), l.length + r = q.works.length →
    (plan ∈ endsR q r l ↔ (∃ t, plan = l ++ t) ∧ plan.length = q.works.length ∧ ∀ (k : Nat) (y : Int) (x : Wd), l.length ≤ k → plan[k]? = some y → q.works[k]? = some x → y = -1 ∨ (x.first ≤ y ∧ y ≤ x.last))
  | 0, l, plan, h => by
    simp only [endsR, List.mem_singleton]
    constructor
    · rintro rfl
      refine ⟨⟨[], by simp⟩, by omega, fun k y x hk hy => ?_⟩
      rw [List.getElem?_eq_none hk] at hy
      cases hy
    · rintro ⟨⟨t, rfl⟩, hl, _⟩
      rw [List.length_append] at hl
      have : t = [] := List.eq_nil_of_length_eq_zero (by omega)
      rw [this, List.append_nil]
  | r + 1, l, plan, h => by
    unfold endsR
    obtain ⟨x, hx⟩ : ∃ x, q.works[l.length]? = some x := ⟨q.works[l.length]'(by omega), List.getElem?_eq_getElem (by omega)⟩
    rw [hx]
    dsimp only
    rw [List.mem_flatMap]
    have ih := fun y => mem_ends (q := q) r (l ++ [y]) plan (by rw [List.length_append, List.length_singleton]; omega)
    constructor
    · rintro ⟨y, hy, hp⟩
      obtain ⟨⟨t, ht⟩, hlen, hk⟩ := (ih y).1 hp
      refine ⟨⟨y :: t, by rw [ht]; simp⟩, hlen, fun k z w hkl hz hw => ?_⟩
      by_cases he : k = l.length
      · subst he
        rw [hx] at hw
        injection hw with hw
        subst hw
        rw [ht, List.append_assoc, List.getElem?_append_right (Nat.le_refl _)] at hz
        simp at hz
        subst hz
        rcases List.mem_cons.1 hy with rfl | hy
        · exact .inl rfl
        · exact .inr (yearsL_in hy)
      · exact hk k z w (by rw [List.length_append, List.length_singleton]; omega) hz hw
    · rintro ⟨⟨t, rfl⟩, hlen, hk⟩
      cases t with
      | nil =>
        rw [List.append_nil] at hlen
        omega
      | cons y t =>
        have hy := hk l.length y x (Nat.le_refl _) (by rw [List.getElem?_append_right (Nat.le_refl _)]; simp) hx
        refine ⟨y, ?_, ?_⟩
        · rcases hy with rfl | ⟨h1, h2⟩
          · exact List.mem_cons_self
          · refine List.mem_cons_of_mem _ ?_
            unfold yearsL
            rw [List.mem_map]
            exact ⟨(y - x.first).toNat, List.mem_range.2 (by unfold yearsN; omega), by omega⟩
        · rw [ih y]
          exact ⟨⟨t, by simp⟩, hlen, fun k z w hkl => hk k z w (by rw [List.length_append, List.length_singleton] at hkl; omega)⟩
theorem plan_iff {ws : List Wd} {plan : List Int} : planB ws plan = true ↔ plan.length = ws.length ∧ ∀ (k : Nat) (y : Int) (x : Wd), plan[k]? = some y → ws[k]? = some x → y = -1 ∨ (x.first ≤ y ∧ y ≤ x.last) := by
  unfold planB
  rw [Bool.and_eq_true, decide_eq_true_eq, List.all_eq_true]
  refine and_congr_right fun hl => ⟨fun h k y x hy hx => ?_, fun h z hz => ?_⟩
  · have := h (y, x) (List.mem_of_getElem? (zip_at hy hx))
    simpa [okY, inB] using this
  · obtain ⟨k, hk⟩ := List.getElem?_of_mem hz
    rw [List.getElem?_zip_eq_some] at hk
    have := h k z.1 z.2 hk.1 hk.2
    simpa [okY, inB] using this
theorem mem_plans {q : Pj} {plan : List Int} : plan ∈ endsR q q.works.length [] ↔ planB q.works plan = true := by
  rw [mem_ends q.works.length [] plan (by simp), plan_iff]
  exact ⟨fun h => ⟨h.2.1, fun k y x => h.2.2 k y x (Nat.zero_le _)⟩, fun h => ⟨⟨plan, by simp⟩, h.1, fun k y x _ => h.2 k y x⟩⟩
theorem fold_none {q : Pj} : ∀ (L : List (List Int)) (b : Option (List Int × Int)), L.foldl (stepR q) b = none ↔ b = none ∧ ∀ e ∈ L, goodP q e = false
  | [], b => by simp
  | e :: L, b => by
    rw [List.foldl_cons, fold_none L]
    unfold stepR
    cases hg : goodP q e with
    | false => simp [hg]
    | true =>
      rw [Bool.true_and]
      cases b with
      | none => simp [imp, hg]
      | some z =>
        split <;> simp
theorem fold_best {q : Pj} {x : List Int} {c : Int} : ∀ (L : List (List Int)) (b : Option (List Int × Int)), L.foldl (stepR q) b = some (x, c) →
    (b = some (x, c) ∨ (x ∈ L ∧ goodP q x = true ∧ c = costN q.works x)) ∧ (∀ e ∈ L, goodP q e = true → c ≤ costN q.works e) ∧ ∀ x' c', b = some (x', c') → c ≤ c'
  | [], b, h => by
    rw [List.foldl_nil] at h
    subst h
    refine ⟨.inl rfl, fun e he => by simp at he, fun x' c' h => ?_⟩
    cases h
    exact Int.le_refl _
  | e :: L, b, h => by
    rw [List.foldl_cons] at h
    obtain ⟨h1, h2, h3⟩ := fold_best L _ h
    unfold stepR at h1 h3
    split at h1
    · rename_i hc
      rw [if_pos hc] at h3
      rw [Bool.and_eq_true] at hc
      have h4 := h3 _ _ rfl
      refine ⟨?_, ?_, ?_⟩
      · rcases h1 with h1 | h1
        · cases h1
          exact .inr ⟨List.mem_cons_self, hc.1, rfl⟩
        · exact .inr ⟨List.mem_cons_of_mem _ h1.1, h1.2⟩
      · intro z hz hg
        rcases List.mem_cons.1 hz with rfl | hz
        · exact h4
        · exact h2 z hz hg
      · intro x' c' hb
        subst hb
        have := hc.2
        simp only [imp, Bool.not_false, Bool.true_and, decide_eq_true_eq] at this
        omega
    · rename_i hc
      rw [if_neg hc] at h3
      refine ⟨?_, ?_, h3⟩
      · rcases h1 with h1 | h1
        · exact .inl h1
        · exact .inr ⟨List.mem_cons_of_mem _ h1.1, h1.2⟩
      · intro z hz hg
        rcases List.mem_cons.1 hz with rfl | hz
        · rw [hg, Bool.true_and] at hc
          cases b with
          | none => simp [imp] at hc
          | some b =>
            have h5 := h3 b.1 b.2 rfl
            simp only [imp, Bool.not_false, Bool.true_and, decide_eq_true_eq] at hc
            omega
        · exact h2 z hz hg
theorem bestD_fold {q : Pj} (hq : PlOk q) : bestD false q (-1) = (endsR q q.works.length []).foldl (stepR q) none := by
  rw [← best_ref hq, refB_is q.works.length [] rfl]
theorem bestR_of {q : Pj} (hf : faultN q = 0) : bestR q = bestD false q (-1) := by unfold bestR; rw [if_pos hf]
theorem plOk_of {q : Pj} (h : FaultOk q) : PlOk q where
  ws x hx := by
    have hw := wdB_parts (h.ws x hx)
    have hy := h.years
    simp only [inB, Bool.and_eq_true, decide_eq_true_eq] at hy
    exact ⟨by omega, hw.2.1.1, hw.2.1.2.1, by omega, hw.2.2.1.1, hw.2.2.2.1.1, hw.2.2.2.2.2⟩
  ns n hn := by
    have hnd := h.ns n hn
    simp only [ndB, inB, Bool.and_eq_true, decide_eq_true_eq] at hnd
    omega
  nn := h.nn
/-- There is no best plan: no plan suffices. -/
theorem bestR_none {q : Pj} (hf : faultN q = 0) : bestR q = none ↔ ∀ plan, planB q.works plan = true → goodP q plan = false := by
  rw [bestR_of hf, bestD_fold (plOk_of (faultOk_iff.1 hf)), fold_none]
  exact ⟨fun h plan hp => h.2 plan (mem_plans.2 hp), fun h => ⟨rfl, fun e he => h e (mem_plans.1 he)⟩⟩
/-- The best plan suffices, and none that does costs less. -/
theorem bestR_some {q : Pj} {x : List Int} {c : Int} (hf : faultN q = 0) (h : bestR q = some (x, c)) : planB q.works x = true ∧ goodP q x = true ∧ c = costN q.works x ∧ ∀ plan, planB q.works plan = true → goodP q plan = true → c ≤ costN q.works plan := by
  rw [bestR_of hf, bestD_fold (plOk_of (faultOk_iff.1 hf))] at h
  obtain ⟨h1, h2, _⟩ := fold_best _ _ h
  rcases h1 with h1 | h1
  · cases h1
  · exact ⟨mem_plans.1 h1.1, h1.2.1, h1.2.2, fun plan hp hg => h2 plan (mem_plans.2 hp) hg⟩
theorem bestE_of {q : Pj} (hf : faultN q = 0) : bestE q = if (bestR q).isSome = true then 0 else 9 := by
  unfold bestE bestR
  rw [if_pos hf, if_pos hf]
theorem suffB_good {q : Pj} {plan : List Int} (hf : faultN q = 0) : suffB q plan = (planB q.works plan && goodP q plan) := by
  unfold suffB checkN goodP
  rw [if_pos hf]
  cases planB q.works plan with
  | false => rfl
  | true =>
    rw [Bool.and_comm (allowB q plan)]
    rfl
theorem sum_le_map {α : Type} {f g : α → Int} : ∀ (l : List α), (∀ x ∈ l, f x ≤ g x) → (l.map f).sum ≤ (l.map g).sum
  | [], _ => Int.le_refl _
  | x :: l, h => by
    have h1 := h x List.mem_cons_self
    have h2 := sum_le_map l fun y hy => h y (List.mem_cons_of_mem _ hy)
    simp only [List.map_cons, List.sum_cons]
    omega
theorem sum_add_map {α : Type} (f g : α → Int) : ∀ (l : List α), (l.map fun x => f x + g x).sum = (l.map f).sum + (l.map g).sum
  | [] => rfl
  | x :: l => by
    have h2 := sum_add_map f g l
    simp only [List.map_cons, List.sum_cons]
    omega
theorem sum_mul_map {α : Type} (c : Int) (f : α → Int) : ∀ (l : List α), (l.map fun x => c * f x).sum = c * (l.map f).sum
  | [] => by simp
  | x :: l => by
    have h2 := sum_mul_map c f l
    simp only [List.map_cons, List.sum_cons]
    rw [h2, Int.mul_add]
theorem sum_nonneg_map {α : Type} {f : α → Int} : ∀ (l : List α), (∀ x ∈ l, 0 ≤ f x) → 0 ≤ (l.map f).sum
  | [], _ => Int.le_refl _
  | x :: l, h => by
    have h1 := h x List.mem_cons_self
    have h2 := sum_nonneg_map l fun y hy => h y (List.mem_cons_of_mem _ hy)
    simp only [List.map_cons, List.sum_cons]
    omega
theorem sum_min {α : Type} {f : α → Int} {d : Int} (hd : 0 ≤ d) : ∀ (l : List α), (∀ x ∈ l, 0 ≤ f x) → (d ≤ (l.map fun x => mnI d (f x)).sum ∨ (l.map fun x => mnI d (f x)).sum = (l.map f).sum)
  | [], _ => .inr rfl
  | x :: l, h => by
    have h1 := h x List.mem_cons_self
    have hl := fun y hy => h y (List.mem_cons_of_mem _ hy)
    have h0 : 0 ≤ (l.map fun x => mnI d (f x)).sum := sum_nonneg_map (f := fun x => mnI d (f x)) l fun y hy => by have := hl y hy; unfold mnI; split <;> omega
    simp only [List.map_cons, List.sum_cons]
    rcases sum_min hd l hl with h2 | h2
    · left
      unfold mnI at h2 ⊢
      split <;> omega
    · by_cases hx : f x ≤ d
      · right
        rw [h2]
        unfold mnI
        split <;> omega
      · left
        have : mnI d (f x) = d := by unfold mnI; rw [if_neg (by omega)] <;> omega
        omega
/-- What is due, by shares, is not more than what the works of a plan that is enough are worth. -/
theorem due_worth {q : Pj} {plan : List Int} {sh : List Int} (hs : ∀ s ∈ sh, 0 ≤ s) (hn : ∀ n ∈ q.needs, 1 ≤ n.due) (hz : ∀ z ∈ plan.zip q.works, ∀ n ∈ q.needs, 0 ≤ addsN z.2 z.1 n.year (rAt z.2.adds n.slope.toNat).lo)
    (he : ∀ n ∈ q.needs, n.due ≤ togN false n.slope.toNat n.year q.works plan) : ∀ k, dueK q.needs sh k ≤ ((plan.zip q.works).map fun z => worthK z.2 z.1 q.needs sh k).sum
  | 0 => by
    simp only [dueK, worthK]
    exact sum_nonneg_map (f := fun _ => 0) _ fun _ _ => Int.le_refl _
  | k + 1 => by
    have ih := due_worth hs hn hz he k
    cases hk : q.needs[k]? with
    | none =>
      simp only [dueK, worthK, hk]
      simpa using ih
    | some n =>
      simp only [dueK, worthK, hk]
      rw [sum_add_map (fun z : Int × Wd => worthK z.2 z.1 q.needs sh k) (fun z : Int × Wd => iAt sh k * mnI n.due (addsN z.2 z.1 n.year (rAt z.2.adds n.slope.toNat).lo)), sum_mul_map]
      have hm := List.mem_of_getElem? hk
      have h0 : 0 ≤ iAt sh k := by
        unfold iAt
        cases hi : sh[k]? with
        | none => exact Int.le_refl _
        | some s => exact hs s (List.mem_of_getElem? hi)
      have h1 : n.due ≤ ((plan.zip q.works).map fun z => mnI n.due (addsN z.2 z.1 n.year (rAt z.2.adds n.slope.toNat).lo)).sum := by
        rcases sum_min (f := fun z : Int × Wd => addsN z.2 z.1 n.year (rAt z.2.adds n.slope.toNat).lo) (d := n.due) (by have := hn n hm; omega) (plan.zip q.works) (fun z hz' => hz z hz' n hm) with h | h
        · exact h
        · rw [h]
          exact he n hm
      have h2 := Int.mul_le_mul_of_nonneg_left h1 h0
      omega
theorem worth_never {x : Wd} {ns : List Nd} {sh : List Int} (hn : ∀ n ∈ ns, 1 ≤ n.due) : ∀ k, worthK x (-1) ns sh k = 0
  | 0 => rfl
  | k + 1 => by
    have ih := worth_never (x := x) (sh := sh) hn k
    cases hk : ns[k]? with
    | none =>
      simp only [worthK, hk, ih]
      rfl
    | some n =>
      have h1 := hn n (List.mem_of_getElem? hk)
      rw [worthK_at hk, ih, addsN_never]
      have : mnI n.due 0 = 0 := by unfold mnI; rw [if_pos (by omega)]
      rw [this]
      simp
theorem miss_zero {q : Pj} {plan : List Int} (h : (missP q plan).length = 0) : ∀ n ∈ q.needs, n.due ≤ togN false n.slope.toNat n.year q.works plan := by
  intro n hn
  obtain ⟨k, hk⟩ := List.getElem?_of_mem hn
  have h1 := (missK_zero q.needs.length).1 h k n (List.getElem?_eq_some_iff.1 hk).1 hk
  simp only [missB, decide_eq_false_iff_not] at h1
  omega
/-- No bound that shares prove is above what a plan that suffices costs. -/
theorem bound_le {q : Pj} {plan sh : List Int} {bound : Int} (hf : faultN q = 0) (hp : planB q.works plan = true) (hg : goodP q plan = true) (hb : boundB q sh bound = true) : bound ≤ costN q.works plan := by
  have hq := faultOk_iff.1 hf
  unfold boundB at hb
  simp only [Bool.and_eq_true, decide_eq_true_eq, List.all_eq_true] at hb
  obtain ⟨⟨⟨⟨_, _⟩, hsh⟩, hwk⟩, hbd⟩ := hb
  unfold goodP allowB at hg
  simp only [Bool.and_eq_true, decide_eq_true_eq, List.all_eq_true] at hg
  obtain ⟨⟨hok, _⟩, hmiss⟩ := hg
  have hpl := plan_iff.1 hp
  have hn : ∀ n ∈ q.needs, 1 ≤ n.due := (plOk_of hq).ns
  have h1 := due_worth (q := q) (plan := plan) (sh := sh) (fun s hs => by have := hsh s hs; simp only [inB, Bool.and_eq_true, decide_eq_true_eq] at this; exact this.1) hn (fun z hz n hn' => by
    have hx := wdB_parts (hq.ws z.2 (List.of_mem_zip hz).2)
    have hr := rAt_bd (k := n.slope.toNat) hx.2.2.2.2.2
    exact (addsN_bd hr.1 hr.2 hx.2.2.1.1).1) (miss_zero hmiss) q.needs.length
  have h2 : ((plan.zip q.works).map fun z => worthK z.2 z.1 q.needs sh q.needs.length).sum ≤ ((plan.zip q.works).map fun z => 1000 * (if 0 ≤ z.1 then z.2.price else 0)).sum := by
    refine sum_le_map _ fun z hz => ?_
    obtain ⟨k, hk⟩ := List.getElem?_of_mem hz
    rw [List.getElem?_zip_eq_some] at hk
    rcases hpl.2 k z.1 z.2 hk.1 hk.2 with h3 | h3
    · rw [h3, worth_never hn]
      simp
    · have hm := (List.of_mem_zip hz).2
      have hx := wdB_parts (hq.ws z.2 hm)
      have ha : agreeB q.villages z.2 = true := by
        rw [← okS_agree (y := z.1) (by omega) hx.2.2.2.1.1]
        exact hok z hz
      have h4 := hwk z.2 hm
      unfold workOk at h4
      rw [ha, Bool.not_true, Bool.false_or, List.all_eq_true] at h4
      have h5 := h4 (z.1 - z.2.first).toNat (List.mem_range.2 (by unfold yearsN; omega))
      unfold yearOk at h5
      rw [decide_eq_true_eq, show z.2.first + ((z.1 - z.2.first).toNat : Int) = z.1 by omega] at h5
      rw [if_pos (by omega)]
      exact h5
  rw [sum_mul_map] at h2
  unfold costN costT
  omega
end Go.Proofs.Ytpnpnfjhjjdmgaa
