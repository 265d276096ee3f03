/- A search that leaves out what it has seen, what costs no less than the best, and what cannot be paid, finds the first best of all. -/
namespace Go.Proofs.Ytpnpnfjhjjdmgaa

section
variable {S Y : Type}
/-- What a search is made of. -/
structure Srch (S Y : Type) where
  rem : S → Nat
  kids : S → List Y
  build : S → Y → S
  cost : S → Int
  cut : S → Bool
  enough : S → Bool
/-- What holds of it. -/
structure SrchOk (X : Srch S Y) : Prop where
  less : ∀ s y, 0 < X.rem s → X.rem (X.build s y) + 1 = X.rem s
  dear : ∀ s y, X.cost s ≤ X.cost (X.build s y)
  cut : ∀ s y, X.cut s = true → X.cut (X.build s y) = true
/-- All ends of a beginning, in order. -/
def ends (X : Srch S Y) : Nat → S → List (List Y × S)
  | 0, s => [([], s)]
  | r + 1, s => (X.kids s).flatMap fun y => (ends X r (X.build s y)).map fun p => (y :: p.1, p.2)
/-- Would an end that costs so much be better than what there is? -/
def imp (first : Bool) (b : Option (List Y × Int)) (x : Int) : Bool := match b with
  | none => true
  | some p => !first && decide (x < p.2)
def stepE (X : Srch S Y) (first : Bool) (l : List Y) (b : Option (List Y × Int)) (p : List Y × S) : Option (List Y × Int) :=
  if (!X.cut p.2 && X.enough p.2) && imp first b (X.cost p.2) then some (l ++ p.1, X.cost p.2) else b
/-- The search itself: what it has seen, and the best. -/
def tryP [DecidableEq S] (X : Srch S Y) (first : Bool) : Nat → S → List Y → List S × Option (List Y × Int) → List S × Option (List Y × Int)
  | r, s, l, st =>
    if !imp first st.2 (X.cost s) || decide (s ∈ st.1) || X.cut s then st
    else match r with
      | 0 => (s :: st.1, if X.enough s then some (l, X.cost s) else st.2)
      | r + 1 => (X.kids s).foldl (fun st y => tryP X first r (X.build s y) (l ++ [y]) st) (s :: st.1, st.2)
def settled (X : Srch S Y) (first : Bool) (s : S) (b : Option (List Y × Int)) : Prop :=
  ∀ p ∈ ends X (X.rem s) s, (!X.cut p.2 && X.enough p.2) = true → imp first b (X.cost p.2) = false
def Inv (X : Srch S Y) (first : Bool) (r : Nat) (M : List S) (b : Option (List Y × Int)) : Prop := ∀ s ∈ M, X.rem s ≤ r → settled X first s b
variable {X : Srch S Y} {first : Bool}

theorem ends_cost (ok : SrchOk X) : ∀ (r : Nat) (s : S) (p : List Y × S), p ∈ ends X r s → X.cost s ≤ X.cost p.2
  | 0, s, p, h => by
    simp only [ends, List.mem_singleton] at h
    subst h
    exact Int.le_refl _
  | r + 1, s, p, h => by
    simp only [ends, List.mem_flatMap, List.mem_map] at h
    obtain ⟨y, _, q, hq, rfl⟩ := h
    have h1 := ok.dear s y
    have h2 := ends_cost ok r (X.build s y) q hq
    exact Int.le_trans h1 h2
theorem ends_cut (ok : SrchOk X) : ∀ (r : Nat) (s : S) (p : List Y × S), X.cut s = true → p ∈ ends X r s → X.cut p.2 = true
  | 0, s, p, hc, h => by
    simp only [ends, List.mem_singleton] at h
    subst h
    exact hc
  | r + 1, s, p, hc, h => by
    simp only [ends, List.mem_flatMap, List.mem_map] at h
    obtain ⟨y, _, q, hq, rfl⟩ := h
    exact ends_cut ok r (X.build s y) q (ok.cut s y hc) hq
theorem imp_less {b : Option (List Y × Int)} {x y : Int} (h : imp first b x = false) (hxy : x ≤ y) : imp first b y = false := by
  cases b with
  | none => simp [imp] at h
  | some p =>
    cases first
    · simp only [imp, Bool.not_false, Bool.true_and, decide_eq_false_iff_not] at h ⊢
      omega
    · rfl
theorem step_imp {l : List Y} {b : Option (List Y × Int)} {p : List Y × S} {x : Int} (h : imp first b x = false) : imp first (stepE X first l b p) x = false := by
  unfold stepE
  split
  · rename_i hc
    simp only [Bool.and_eq_true] at hc
    cases b with
    | none => simp [imp] at h
    | some q =>
      cases first
      · have h2 := hc.2
        simp only [imp, Bool.not_false, Bool.true_and, decide_eq_false_iff_not, decide_eq_true_eq] at h h2 ⊢
        omega
      · rfl
  · exact h
theorem fold_imp {l : List Y} {x : Int} : ∀ (L : List (List Y × S)) (b : Option (List Y × Int)), imp first b x = false → imp first (L.foldl (stepE X first l) b) x = false
  | [], _, h => h
  | _ :: L, _, h => fold_imp L _ (step_imp h)
theorem step_self {l : List Y} {b : Option (List Y × Int)} {p : List Y × S} (h : (!X.cut p.2 && X.enough p.2) = true) : imp first (stepE X first l b p) (X.cost p.2) = false := by
  unfold stepE
  cases hi : imp first b (X.cost p.2) with
  | true =>
    rw [h]
    simp [imp]
  | false =>
    rw [Bool.and_false]
    exact hi
theorem fold_all {l : List Y} : ∀ (L : List (List Y × S)) (b : Option (List Y × Int)) (p : List Y × S), p ∈ L → (!X.cut p.2 && X.enough p.2) = true → imp first (L.foldl (stepE X first l) b) (X.cost p.2) = false
  | _ :: L, _, p, hp, h => by
    rcases List.mem_cons.1 hp with rfl | hp
    · exact fold_imp L _ (step_self h)
    · exact fold_all L _ p hp h
theorem fold_same {l : List Y} : ∀ (L : List (List Y × S)) (b : Option (List Y × Int)), (∀ p ∈ L, (!X.cut p.2 && X.enough p.2) = true → imp first b (X.cost p.2) = false) → L.foldl (stepE X first l) b = b
  | [], _, _ => rfl
  | p :: L, b, h => by
    have hp : stepE X first l b p = b := by
      unfold stepE
      cases hc : (!X.cut p.2 && X.enough p.2) with
      | false => simp
      | true => rw [h p (by simp) hc]; simp
    rw [List.foldl_cons, hp]
    exact fold_same L b fun q hq => h q (List.mem_cons_of_mem _ hq)
theorem fold_move (l : List Y) (y : Y) : ∀ (L : List (List Y × S)) (b : Option (List Y × Int)), (L.map fun p => (y :: p.1, p.2)).foldl (stepE X first l) b = L.foldl (stepE X first (l ++ [y])) b
  | [], _ => rfl
  | p :: L, b => by
    rw [List.map_cons, List.foldl_cons, List.foldl_cons, ← fold_move l y L]
    congr 1
    simp [stepE]
/-- The search finds what all ends, one behind the other, would. -/
theorem tryP_is [DecidableEq S] (ok : SrchOk X) : ∀ (r : Nat) (s : S) (l : List Y) (M : List S) (b : Option (List Y × Int)), X.rem s = r → Inv X first r M b →
    (tryP X first r s l (M, b)).2 = (ends X r s).foldl (stepE X first l) b ∧ Inv X first r (tryP X first r s l (M, b)).1 (tryP X first r s l (M, b)).2 ∧ (∀ x ∈ (tryP X first r s l (M, b)).1, x ∈ M ∨ X.rem x ≤ r) := by
  intro r
  induction r with
  | zero =>
    intro s l M b hr hI
    unfold tryP
    by_cases hp : (!imp first b (X.cost s) || decide (s ∈ M) || X.cut s) = true
    · rw [if_pos hp]
      refine ⟨(fold_same _ _ fun p hpm hok => ?_).symm, hI, fun x hx => .inl hx⟩
      simp only [Bool.or_eq_true, Bool.not_eq_true', decide_eq_true_eq] at hp
      rcases hp with (h | h) | h
      · exact imp_less h (ends_cost ok 0 s p hpm)
      · exact hI s h (by omega) p (by rw [hr]; exact hpm) hok
      · have := ends_cut ok 0 s p h hpm
        rw [this] at hok
        simp at hok
    · rw [if_neg hp]
      simp only [Bool.or_eq_true, Bool.not_eq_true', decide_eq_true_eq, not_or] at hp
      obtain ⟨⟨h1, h2⟩, h3⟩ := hp
      have h1 : imp first b (X.cost s) = true := by simpa using h1
      have h3 : X.cut s = false := by simpa using h3
      have hf : (if X.enough s then some (l, X.cost s) else b) = (ends X 0 s).foldl (stepE X first l) b := by
        simp only [ends, List.foldl_cons, List.foldl_nil, stepE, h1, h3, Bool.not_false, Bool.true_and, Bool.and_true, List.append_nil]
      refine ⟨hf, ?_, fun x hx => ?_⟩
      · intro x hx hxr p hpm hok
        dsimp only
        rw [hf]
        rcases List.mem_cons.1 hx with rfl | hx
        · rw [hr] at hpm
          exact fold_all _ _ p hpm hok
        · exact fold_imp _ _ (hI x hx hxr p hpm hok)
      · rcases List.mem_cons.1 hx with rfl | hx
        · exact .inr (by omega)
        · exact .inl hx
  | succ r ih =>
    intro s l M b hr hI
    unfold tryP
    by_cases hp : (!imp first b (X.cost s) || decide (s ∈ M) || X.cut s) = true
    · rw [if_pos hp]
      refine ⟨(fold_same _ _ fun p hpm hok => ?_).symm, hI, fun x hx => .inl hx⟩
      simp only [Bool.or_eq_true, Bool.not_eq_true', decide_eq_true_eq] at hp
      rcases hp with (h | h) | h
      · exact imp_less h (ends_cost ok (r + 1) s p hpm)
      · exact hI s h (by omega) p (by rw [hr]; exact hpm) hok
      · have := ends_cut ok (r + 1) s p h hpm
        rw [this] at hok
        simp at hok
    · rw [if_neg hp]
      dsimp only
      have key : ∀ (ys : List Y) (M' : List S) (b' : Option (List Y × Int)), Inv X first r M' b' →
          (ys.foldl (fun st y => tryP X first r (X.build s y) (l ++ [y]) st) (M', b')).2 = (ys.flatMap fun y => (ends X r (X.build s y)).map fun p => (y :: p.1, p.2)).foldl (stepE X first l) b' ∧
          Inv X first r (ys.foldl (fun st y => tryP X first r (X.build s y) (l ++ [y]) st) (M', b')).1 (ys.foldl (fun st y => tryP X first r (X.build s y) (l ++ [y]) st) (M', b')).2 ∧
          (∀ x ∈ (ys.foldl (fun st y => tryP X first r (X.build s y) (l ++ [y]) st) (M', b')).1, x ∈ M' ∨ X.rem x ≤ r) := by
        intro ys
        induction ys with
        | nil => intro M' b' h; exact ⟨rfl, h, fun x hx => .inl hx⟩
        | cons y ys ihy =>
          intro M' b' h
          have hl := ok.less s y (by omega)
          obtain ⟨a1, a2, a3⟩ := ih (X.build s y) (l ++ [y]) M' b' (by omega) h
          obtain ⟨c1, c2, c3⟩ := ihy (tryP X first r (X.build s y) (l ++ [y]) (M', b')).1 (tryP X first r (X.build s y) (l ++ [y]) (M', b')).2 a2
          simp only [List.foldl_cons, List.flatMap_cons, List.foldl_append]
          refine ⟨?_, c2, fun x hx => ?_⟩
          · rw [fold_move, ← a1]
            exact c1
          · rcases c3 x hx with hx | hx
            · exact a3 x hx
            · exact .inr hx
      have hI1 : Inv X first r (s :: M) b := fun x hx hxr => by
        rcases List.mem_cons.1 hx with rfl | hx
        · omega
        · exact hI x hx (by omega)
      obtain ⟨k1, k2, k3⟩ := key (X.kids s) (s :: M) b hI1
      refine ⟨k1, fun x hx hxr p hpm hok => ?_, fun x hx => ?_⟩
      · rcases Nat.lt_or_ge r (X.rem x) with hlt | hge
        · rw [k1]
          rcases k3 x hx with h | h
          · rcases List.mem_cons.1 h with rfl | h
            · rw [hr] at hpm
              exact fold_all _ _ p hpm hok
            · exact fold_imp _ _ (hI x h hxr p hpm hok)
          · omega
        · exact k2 x hx hge p hpm hok
      · rcases k3 x hx with h | h
        · rcases List.mem_cons.1 h with rfl | h
          · exact .inr (by omega)
          · exact .inl h
        · exact .inr (by omega)
end
end Go.Proofs.Ytpnpnfjhjjdmgaa
