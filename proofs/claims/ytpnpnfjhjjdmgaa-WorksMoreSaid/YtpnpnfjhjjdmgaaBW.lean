/- One change of a project: the best plan does not cost more, or less; plain laws. -/
import Derived.Test.YtpnpnfjhjjdmgaaBG
namespace Go.Proofs.Ytpnpnfjhjjdmgaa

theorem bestE_9 {q : Pj} (hf : faultN q = 0) : bestE q = 0 ∨ bestE q = 9 := by
  unfold bestE
  rw [if_pos hf]
  split
  · exact .inl rfl
  · exact .inr rfl
theorem bestE_is {q : Pj} (hf : faultN q = 0) : bestE q = 0 ↔ ∃ plan, planB q.works plan = true ∧ goodP q plan = true := by
  rw [bestE_of hf]
  cases hr : bestR q with
  | none =>
    refine ⟨fun h => absurd h (by decide), fun ⟨plan, h1, h2⟩ => ?_⟩
    have := (bestR_none hf).1 hr plan h1
    rw [h2] at this
    cases this
  | some z =>
    obtain ⟨h1, h2, _⟩ := bestR_some (x := z.1) (c := z.2) hf hr
    exact ⟨fun _ => ⟨z.1, h1, h2⟩, fun _ => rfl⟩
theorem spL_is {ws : List Wd} {plan : List Int} : spL ws plan = (List.range 5).map fun (y : Nat) => (spT ws plan (y : Int)).sum := by
  unfold spL spK
  refine List.map_congr_left fun y _ => ?_
  rw [List.take_of_length_le]
  unfold spT
  rw [List.length_map, List.length_zip]
  omega
theorem good_iff {q : Pj} {l : List Int} : goodP q l = true ↔ (l.zip q.works).all (okS q.villages) = true ∧ (∀ k, k < q.purses.length → (((List.range 5).map fun (y : Nat) => (spT q.works l (y : Int)).sum).take (k + 1)).sum ≤ (q.purses.take (k + 1)).sum) ∧ ∀ n ∈ q.needs, n.due ≤ togN false n.slope.toNat n.year q.works l := by
  unfold goodP allowB paidB
  rw [Bool.and_eq_true, Bool.and_eq_true, decide_eq_true_eq, and_assoc, spL_is]
  refine and_congr_right fun _ => and_congr ?_ ?_
  · simp only [List.all_eq_true, List.mem_range, decide_eq_true_eq]
  · constructor
    · exact miss_zero
    · intro h
      unfold missP
      rw [missK_zero]
      intro j n _ hn
      have := h n (List.mem_of_getElem? hn)
      unfold missB
      rw [decide_eq_false_iff_not]
      omega
theorem good_more {q q' : Pj} {l l' : List Int} (hp : q'.purses.length = q.purses.length) (hps : ∀ k, (q.purses.take k).sum ≤ (q'.purses.take k).sum) (hok : (l.zip q.works).all (okS q.villages) = true → (l'.zip q'.works).all (okS q'.villages) = true)
    (hsp : ∀ y : Int, 0 ≤ y → (spT q'.works l' y).sum ≤ (spT q.works l y).sum) (hn : ∀ n' ∈ q'.needs, ∃ n ∈ q.needs, n'.slope = n.slope ∧ n'.year = n.year ∧ n'.due ≤ n.due)
    (htg : ∀ s y, togN false s y q.works l ≤ togN false s y q'.works l') (hg : goodP q l = true) : goodP q' l' = true := by
  rw [good_iff] at hg ⊢
  refine ⟨hok hg.1, fun k hk => ?_, fun n' hn' => ?_⟩
  · have h1 := hg.2.1 k (by omega)
    have h2 := hps (k + 1)
    rw [← List.map_take] at h1 ⊢
    have h3 := sum_le_map (f := fun (y : Nat) => (spT q'.works l' (y : Int)).sum) (g := fun (y : Nat) => (spT q.works l (y : Int)).sum) ((List.range 5).take (k + 1)) fun y _ => hsp y (by omega)
    omega
  · obtain ⟨n, h1, h2, h3, h4⟩ := hn n' hn'
    have h5 := hg.2.2 n h1
    have h6 := htg n.slope.toNat n.year
    rw [h2, h3]
    omega
/-- A change by which plans that suffice go on to, and cost no more. -/
theorem best_more {q q' : Pj} (hf : faultN q = 0) (hf' : faultN q' = 0) (φ : List Int → List Int) (h : ∀ l, planB q.works l = true → goodP q l = true → planB q'.works (φ l) = true ∧ goodP q' (φ l) = true ∧ costN q'.works (φ l) ≤ costN q.works l) (hb : bestE q = 0) : bestE q' = 0 ∧ costOf (bestR q') ≤ costOf (bestR q) := by
  have hs := some_best hf hb
  have h1 := hs.2.1
  rw [suffB_good hf, Bool.and_eq_true] at h1
  obtain ⟨h2, h3, h4⟩ := h _ h1.1 h1.2
  have h5 := (bestE_is hf').2 ⟨_, h2, h3⟩
  have h6 := (some_best hf' h5).2.2.2.1 _ (by rw [suffB_good hf', Bool.and_eq_true]; exact ⟨h2, h3⟩)
  refine ⟨h5, ?_⟩
  rw [hs.2.2.1]
  omega
theorem zip_set_sum {R : Int → Int → Prop} (hr : ∀ a, R a a) (ha : ∀ a b c d, R a b → R c d → R (a + c) (b + d)) {f : Int × Wd → Int} {x x' : Wd} (hf : ∀ y, R (f (y, x')) (f (y, x))) : ∀ (plan : List Int) (ws : List Wd) (k : Nat), ws[k]? = some x → R ((plan.zip (ws.set k x')).map f).sum ((plan.zip ws).map f).sum
  | [], _, _, _ => by simpa using hr 0
  | y :: plan, [], k, h => by simp at h
  | y :: plan, z :: ws, 0, h => by
    have e : z = x := by simpa using h
    subst e
    simpa using ha _ _ _ _ (hf y) (hr ((plan.zip ws).map f).sum)
  | y :: plan, z :: ws, k + 1, h => by
    have ih := zip_set_sum hr ha hf plan ws k (by simpa using h)
    simpa using ha _ _ _ _ (hr (f (y, z))) ih
theorem zip_set_all {f : Int × Wd → Bool} {x x' : Wd} (hf : ∀ y, f (y, x') = f (y, x)) : ∀ (plan : List Int) (ws : List Wd) (k : Nat), ws[k]? = some x → (plan.zip (ws.set k x')).all f = (plan.zip ws).all f
  | [], _, _, _ => by simp
  | y :: plan, [], k, h => by simp at h
  | y :: plan, z :: ws, 0, h => by
    have e : z = x := by simpa using h
    subst e
    simp [hf y]
  | y :: plan, z :: ws, k + 1, h => by
    have ih := zip_set_all hf plan ws k (by simpa using h)
    simp [ih]
theorem plan_set {ws : List Wd} {x x' : Wd} {k : Nat} {l : List Int} (hx : ws[k]? = some x) (h1 : x'.first = x.first) (h2 : x'.last = x.last) (h : planB ws l = true) : planB (ws.set k x') l = true := by
  rw [plan_iff] at h ⊢
  rw [List.length_set]
  refine ⟨h.1, fun j y z hy hz => ?_⟩
  rw [List.getElem?_set] at hz
  split at hz
  · rename_i e
    subst e
    split at hz
    · have e2 : x' = z := by simpa using hz
      have := h.2 k y x hy hx
      rw [← e2, h1, h2]
      exact this
    · cases hz
  · exact h.2 j y z hy hz
theorem set_sum_le : ∀ (l : List Int) (y : Nat) (a v : Int), l[y]? = some a → a ≤ v → ∀ k, (l.take k).sum ≤ ((l.set y v).take k).sum
  | [], _, _, _, h, _, _ => by simp at h
  | b :: l, 0, a, v, h, hv, 0 => by simp
  | b :: l, 0, a, v, h, hv, k + 1 => by
    have e : b = a := by simpa using h
    subst e
    simpa using hv
  | b :: l, y + 1, a, v, h, hv, 0 => by simp
  | b :: l, y + 1, a, v, h, hv, k + 1 => by
    have ih := set_sum_le l y a v (by simpa using h) hv k
    simpa using ih
/-- More money. -/
theorem more_money {q : Pj} {y : Nat} {a v : Int} (hf : faultN q = 0) (ha : q.purses[y]? = some a) (hv : a ≤ v) (hf' : faultN { q with purses := q.purses.set y v } = 0) (hb : bestE q = 0) : bestE { q with purses := q.purses.set y v } = 0 ∧ costOf (bestR { q with purses := q.purses.set y v }) ≤ costOf (bestR q) :=
  best_more hf hf' id (fun l hp hg => ⟨hp, good_more (q := q) (by simp) (set_sum_le _ _ _ _ ha hv) (fun h => h) (fun _ _ => Int.le_refl _) (fun n hn => ⟨n, hn, rfl, rfl, Int.le_refl _⟩) (fun _ _ => Int.le_refl _) hg, Int.le_refl _⟩) hb
/-- A work that is cheaper, or adds more. -/
theorem more_work {q : Pj} {k : Nat} {x x' : Wd} (hf : faultN q = 0) (hx : q.works[k]? = some x) (h1 : x'.first = x.first) (h2 : x'.last = x.last) (h3 : x'.village = x.village) (h4 : x'.price ≤ x.price) (h5 : ∀ b y s, addsN x b y (rAt x.adds s).lo ≤ addsN x' b y (rAt x'.adds s).lo) (hf' : faultN { q with works := q.works.set k x' } = 0) (hb : bestE q = 0) : bestE { q with works := q.works.set k x' } = 0 ∧ costOf (bestR { q with works := q.works.set k x' }) ≤ costOf (bestR q) := by
  refine best_more hf hf' id (fun l hp hg => ⟨plan_set hx h1 h2 hp, good_more (q := q) rfl (fun _ => Int.le_refl _) (fun h => ?_) (fun y _ => ?_) (fun n hn => ⟨n, hn, rfl, rfl, Int.le_refl _⟩) (fun s y => ?_) hg, ?_⟩) hb
  · show (l.zip (q.works.set k x')).all (okS q.villages) = true
    rw [zip_set_all (x := x) (fun y => by unfold okS; dsimp only; rw [h3]) l q.works k hx]
    exact h
  · show (spT (q.works.set k x') l y).sum ≤ _
    unfold spT
    exact zip_set_sum (R := (· ≤ ·)) (fun a => Int.le_refl a) (fun _ _ _ _ a b => Int.add_le_add a b) (x := x) (fun z => by dsimp only; split <;> omega) l q.works k hx
  · show _ ≤ togN false s y (q.works.set k x') l
    unfold togN togL
    exact zip_set_sum (R := fun a b => b ≤ a) (fun a => Int.le_refl a) (fun _ _ _ _ a b => Int.add_le_add a b) (x := x) (fun z => by exact h5 z y s) l q.works k hx
  · show costN (q.works.set k x') l ≤ _
    unfold costN costT
    exact zip_set_sum (R := (· ≤ ·)) (fun a => Int.le_refl a) (fun _ _ _ _ a b => Int.add_le_add a b) (x := x) (fun z => by dsimp only; split <;> omega) l q.works k hx
theorem addsN_up {x : Wd} {b y m n : Int} (h : m ≤ n) : addsN x b y m ≤ addsN x b y n := by
  unfold addsN
  split
  · exact Int.le_refl _
  · have h1 : 0 ≤ mxI 0 (1000 - x.age * (y - b)) := by unfold mxI; split <;> omega
    have h2 := Int.mul_le_mul_of_nonneg_right h h1
    omega
theorem cheaper_work {q : Pj} {k : Nat} {x : Wd} {v : Int} (hf : faultN q = 0) (hx : q.works[k]? = some x) (h4 : v ≤ x.price) (hf' : faultN { q with works := q.works.set k { x with price := v } } = 0) (hb : bestE q = 0) : bestE { q with works := q.works.set k { x with price := v } } = 0 ∧ costOf (bestR { q with works := q.works.set k { x with price := v } }) ≤ costOf (bestR q) :=
  more_work hf hx rfl rfl rfl h4 (fun _ _ _ => Int.le_refl _) hf' hb
theorem better_work {q : Pj} {k j : Nat} {x : Wd} {r : Rg} {v : Int} (hf : faultN q = 0) (hx : q.works[k]? = some x) (hr : x.adds[j]? = some r) (hv : r.lo ≤ v) (hf' : faultN { q with works := q.works.set k { x with adds := x.adds.set j ⟨v, r.hi⟩ } } = 0) (hb : bestE q = 0) : bestE { q with works := q.works.set k { x with adds := x.adds.set j ⟨v, r.hi⟩ } } = 0 ∧ costOf (bestR { q with works := q.works.set k { x with adds := x.adds.set j ⟨v, r.hi⟩ } }) ≤ costOf (bestR q) := by
  refine more_work hf hx rfl rfl rfl (Int.le_refl _) (fun b y s => ?_) hf' hb
  show addsN x b y _ ≤ addsN { x with adds := x.adds.set j ⟨v, r.hi⟩ } b y (rAt (x.adds.set j ⟨v, r.hi⟩) s).lo
  have e : ∀ n, addsN { x with adds := x.adds.set j ⟨v, r.hi⟩ } b y n = addsN x b y n := fun n => rfl
  rw [e]
  refine addsN_up ?_
  unfold rAt
  rw [List.getElem?_set]
  by_cases hj : j = s
  · subst hj
    rw [if_pos rfl, if_pos (List.getElem?_eq_some_iff.1 hr).1, hr]
    exact hv
  · rw [if_neg hj]
    exact Int.le_refl _
/-- A need that is less due. -/
theorem less_due {q : Pj} {i : Nat} {n : Nd} {v : Int} (hf : faultN q = 0) (hn : q.needs[i]? = some n) (hv : v ≤ n.due) (hf' : faultN { q with needs := q.needs.set i { n with due := v } } = 0) (hb : bestE q = 0) : bestE { q with needs := q.needs.set i { n with due := v } } = 0 ∧ costOf (bestR { q with needs := q.needs.set i { n with due := v } }) ≤ costOf (bestR q) := by
  refine best_more hf hf' id (fun l hp hg => ⟨hp, good_more (q := q) rfl (fun _ => Int.le_refl _) (fun h => h) (fun _ _ => Int.le_refl _) (fun m hm => ?_) (fun _ _ => Int.le_refl _) hg, Int.le_refl _⟩) hb
  rcases List.mem_or_eq_of_mem_set hm with h | h
  · exact ⟨m, h, rfl, rfl, Int.le_refl _⟩
  · exact ⟨n, List.mem_of_getElem? hn, by rw [h], by rw [h], by rw [h]; exact hv⟩
/-- One work more. -/
theorem one_work {q : Pj} {x : Wd} (hf : faultN q = 0) (hf' : faultN { q with works := q.works ++ [x] } = 0) (hb : bestE q = 0) : bestE { q with works := q.works ++ [x] } = 0 ∧ costOf (bestR { q with works := q.works ++ [x] }) ≤ costOf (bestR q) := by
  refine best_more hf hf' (· ++ [-1]) (fun l hp hg => ?_) hb
  have hl := (plan_iff.1 hp).1
  have hz : (l ++ [-1]).zip (q.works ++ [x]) = l.zip q.works ++ [(-1, x)] := by rw [List.zip_append hl]; rfl
  refine ⟨?_, good_more (q := q) rfl (fun _ => Int.le_refl _) (fun h => ?_) (fun y hy => ?_) (fun n hn => ⟨n, hn, rfl, rfl, Int.le_refl _⟩) (fun s y => ?_) hg, ?_⟩
  · rw [plan_iff]
    refine ⟨by simp [hl], fun k y z hy hz => ?_⟩
    by_cases hk : k < l.length
    · rw [List.getElem?_append_left hk] at hy
      rw [List.getElem?_append_left (by omega)] at hz
      exact (plan_iff.1 hp).2 k y z hy hz
    · rw [List.getElem?_append_right (by omega)] at hy
      have := List.mem_of_getElem? hy
      simp at this
      exact .inl this
  · show ((l ++ [-1]).zip (q.works ++ [x])).all (okS q.villages) = true
    rw [hz, List.all_append, h]
    simp [okS]
  · show (spT (q.works ++ [x]) (l ++ [-1]) y).sum ≤ _
    unfold spT
    rw [hz, List.map_append, List.sum_append]
    simp only [List.map_cons, List.map_nil, List.sum_cons, List.sum_nil]
    rw [if_neg (by omega)]
    omega
  · show _ ≤ togN false s y (q.works ++ [x]) (l ++ [-1])
    unfold togN togL
    rw [hz, List.map_append, List.sum_append]
    simp only [List.map_cons, List.map_nil, List.sum_cons, List.sum_nil]
    rw [addsN_never]
    omega
  · show costN (q.works ++ [x]) (l ++ [-1]) ≤ _
    unfold costN costT
    rw [hz, List.map_append, List.sum_append]
    simp
/-- One need more. -/
theorem one_need {q : Pj} {n : Nd} (hf : faultN q = 0) (hf' : faultN { q with needs := q.needs ++ [n] } = 0) (hb : bestE { q with needs := q.needs ++ [n] } = 0) : bestE q = 0 ∧ costOf (bestR q) ≤ costOf (bestR { q with needs := q.needs ++ [n] }) :=
  best_more hf' hf id (fun _ hp hg => ⟨hp, good_more (q := { q with needs := q.needs ++ [n] }) rfl (fun _ => Int.le_refl _) (fun h => h) (fun _ _ => Int.le_refl _) (fun m hm => ⟨m, List.mem_append_left _ hm, rfl, rfl, Int.le_refl _⟩) (fun _ _ => Int.le_refl _) hg, Int.le_refl _⟩) hb
end Go.Proofs.Ytpnpnfjhjjdmgaa
