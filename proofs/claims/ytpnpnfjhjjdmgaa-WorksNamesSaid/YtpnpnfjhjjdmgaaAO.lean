/- The best plan of the search is that of the reference: plain law. -/
import Derived.Test.YtpnpnfjhjjdmgaaAN
namespace Go.Proofs.Ytpnpnfjhjjdmgaa

/-- What the plain law needs of a project. -/
structure PlOk (q : Pj) : Prop where
  ws : ∀ x ∈ q.works, 0 ≤ x.price ∧ 0 ≤ x.first ∧ x.first ≤ x.last ∧ x.last ≤ 4 ∧ 0 ≤ x.age ∧ -1 ≤ x.village ∧ ∀ r ∈ x.adds, 0 ≤ r.lo ∧ r.lo ≤ r.hi ∧ r.hi ≤ 10000
  ns : ∀ n ∈ q.needs, 1 ≤ n.due
  nn : q.needs.length ≤ 20
theorem zip_snoc {α β : Type} (y : α) : ∀ (l : List α) (ws : List β) (x : β), ws[l.length]? = some x → (l ++ [y]).zip ws = l.zip ws ++ [(y, x)]
  | [], [], x, h => by simp at h
  | [], w :: ws, x, h => by
    simp only [List.length_nil, List.getElem?_cons_zero, Option.some.injEq] at h
    subst h
    simp
  | a :: l, [], x, h => by simp at h
  | a :: l, w :: ws, x, h => by
    simp only [List.length_cons, List.getElem?_cons_succ] at h
    simp only [List.cons_append, List.zip_cons_cons, zip_snoc y l ws x h]
theorem iAt_set {l : List Int} {i j : Nat} {v : Int} (hi : i < l.length) : iAt (l.set i v) j = if i = j then v else iAt l j := by
  unfold iAt
  rw [List.getElem?_set]
  by_cases h : i = j
  · rw [if_pos h, if_pos h, if_pos hi]
    rfl
  · rw [if_neg h, if_neg h]
theorem buildA_get {x : Wd} {y : Int} {ns : List Nd} {a : List Int} {k : Nat} {n : Nd} (hk : ns[k]? = some n) (ha : k < a.length) : ∀ m, k < m → iAt (buildA x y ns a m) k = addU x y n (iAt a k)
  | m + 1, h => by
    unfold buildA
    by_cases hm : k = m
    · subst hm
      rw [hk]
      dsimp only
      rw [iAt_set (by rw [buildA_len]; exact ha), if_pos rfl]
    · have ih := buildA_get (x := x) (y := y) hk ha m (by omega)
      split
      · by_cases hml : m < a.length
        · rw [iAt_set (by rw [buildA_len]; exact hml), if_neg (by omega), ih]
        · rw [List.set_eq_of_length_le (by rw [buildA_len]; omega), ih]
      · exact ih
/-- A state is that of the plan so far. -/
structure StOf (q : Pj) (l : List Int) (s : Sx) : Prop where
  n : s.n = l.length
  a20 : s.a.length = 20
  p5 : s.p.length = 5
  a : ∀ k n, q.needs[k]? = some n → iAt s.a k = mnI n.due (togN false n.slope.toNat n.year q.works l)
  p : ∀ y : Nat, y < 5 → iAt s.p y = (spT q.works l (y : Int)).sum
  c : s.p.sum = costN q.works l
theorem togN_snoc {ws : List Wd} {l : List Int} {y : Int} {x : Wd} (slope : Nat) (year : Int) (h : ws[l.length]? = some x) : togN false slope year ws (l ++ [y]) = togN false slope year ws l + addsN x y year (rAt x.adds slope).lo := by
  unfold togN togL
  rw [zip_snoc y l ws x h, List.map_append, List.sum_append]
  simp [endR]
theorem spT_snoc {ws : List Wd} {l : List Int} {y : Int} {x : Wd} (z : Int) (h : ws[l.length]? = some x) : (spT ws (l ++ [y]) z).sum = (spT ws l z).sum + (if y = z then x.price else 0) := by
  unfold spT
  rw [zip_snoc y l ws x h, List.map_append, List.sum_append]
  simp
theorem costN_snoc {ws : List Wd} {l : List Int} {y : Int} {x : Wd} (h : ws[l.length]? = some x) : costN ws (l ++ [y]) = costN ws l + (if 0 ≤ y then x.price else 0) := by
  unfold costN costT
  rw [zip_snoc y l ws x h, List.map_append, List.sum_append]
  simp
theorem iAt_zeros (m k : Nat) : iAt (List.replicate m 0) k = 0 := by
  unfold iAt
  rw [List.getElem?_replicate]
  split <;> rfl
theorem st_zero {q : Pj} (hq : PlOk q) : StOf q [] sx0 where
  n := rfl
  a20 := rfl
  p5 := rfl
  a k n hn := by
    rw [show sx0.a = List.replicate 20 0 from rfl, iAt_zeros]
    have := hq.ns n (List.mem_of_getElem? hn)
    have h0 : togN false n.slope.toNat n.year q.works [] = 0 := rfl
    rw [h0]
    unfold mnI
    split <;> omega
  p y hy := by
    rw [show sx0.p = List.replicate 5 0 from rfl, iAt_zeros]
    rfl
  c := rfl
theorem st_next {q : Pj} {l : List Int} {s : Sx} {x : Wd} {y : Int} (hq : PlOk q) (h : StOf q l s) (hx : q.works[l.length]? = some x) (hy : y = -1 ∨ (0 ≤ y ∧ y ≤ 4)) : StOf q (l ++ [y]) (bldS q s y) := by
  have hxo := hq.ws x (List.mem_of_getElem? hx)
  rw [bldS_at y (by rw [h.n]; exact hx)]
  unfold buildS
  by_cases hm : y = -1
  · subst hm
    rw [if_pos rfl]
    refine ⟨by simp [h.n], h.a20, h.p5, fun k n hn => ?_, fun z hz => ?_, ?_⟩
    · rw [togN_snoc _ _ hx, show addsN x (-1) n.year (rAt x.adds n.slope.toNat).lo = 0 by unfold addsN; rw [if_pos (.inl rfl)], Int.add_zero]
      exact h.a k n hn
    · rw [spT_snoc _ hx, if_neg (by omega), Int.add_zero]
      exact h.p z hz
    · rw [costN_snoc hx, if_neg (by omega), Int.add_zero]
      exact h.c
  · rw [if_neg hm]
    have hy0 : 0 ≤ y ∧ y ≤ 4 := by omega
    refine ⟨by simp [h.n], by rw [buildA_len]; exact h.a20, by rw [List.length_set]; exact h.p5, fun k n hn => ?_, fun z hz => ?_, ?_⟩
    · have hkn := (List.getElem?_eq_some_iff.1 hn).1
      have hnn := hq.nn
      rw [buildA_get hn (by rw [h.a20]; omega) _ hkn, togN_snoc _ _ hx, h.a k n hn]
      have hb := rAt_bd (k := n.slope.toNat) hxo.2.2.2.2.2.2
      have had := addsN_bd (x := x) (built := y) (year := n.year) hb.1 hb.2 hxo.2.2.2.2.1
      unfold addU mnI
      repeat' split
      all_goals omega
    · dsimp only
      rw [iAt_set (by rw [h.p5]; omega), spT_snoc _ hx]
      by_cases hz2 : y.toNat = z
      · rw [if_pos hz2, if_pos (by omega), h.p y.toNat (by omega), hz2]
      · rw [if_neg hz2, if_neg (by omega), Int.add_zero]
        exact h.p z hz
    · dsimp only
      rw [sum_set _ _ _ (by rw [h.p5]; omega), costN_snoc hx, if_pos hy0.1, h.c]
theorem missK_zero {f : Nd → Bool} {ns : List Nd} : ∀ k, (missK f ns k).length = 0 ↔ ∀ j n, j < k → ns[j]? = some n → f n = false
  | 0 => ⟨fun _ j n h => by omega, fun _ => rfl⟩
  | k + 1 => by
    have ih := missK_zero (f := f) (ns := ns) k
    cases hn : ns[k]? with
    | none =>
      rw [show missK f ns (k + 1) = missK f ns k by simp only [missK, hn, List.append_nil], ih]
      refine ⟨fun h j n hj hjn => ?_, fun h j n hj => h j n (by omega)⟩
      rcases Nat.lt_or_ge j k with h1 | h1
      · exact h j n h1 hjn
      · obtain rfl : j = k := by omega
        rw [hn] at hjn
        cases hjn
    | some m =>
      cases hf : f m with
      | true =>
        rw [missK_yes hn hf]
        refine ⟨fun h => by simp at h, fun h => ?_⟩
        rw [h k m (by omega) hn] at hf
        cases hf
      | false =>
        rw [missK_no hn hf, ih]
        refine ⟨fun h j n hj hjn => ?_, fun h j n hj => h j n (by omega)⟩
        rcases Nat.lt_or_ge j k with h1 | h1
        · exact h j n h1 hjn
        · obtain rfl : j = k := by omega
          rw [hn] at hjn
          cases hjn
          exact hf
/-- Is a plan one that suffices, by the reference? -/
def goodP (q : Pj) (l : List Int) : Bool := allowB q l && decide ((missP q l).length = 0)
theorem st_enough {q : Pj} {l : List Int} {s : Sx} (hq : PlOk q) (h : StOf q l s) : enoughB q.needs s.a = decide ((missP q l).length = 0) := by
  rw [Bool.eq_iff_iff, decide_eq_true_eq]
  unfold enoughB missP
  rw [missK_zero, List.all_eq_true]
  have hnn := hq.nn
  constructor
  · intro ha j n hj hn
    have hja : s.a[j]? = some (iAt s.a j) := by
      obtain ⟨v, hv⟩ := get_of_lt (l := s.a) (k := j) (by rw [h.a20]; omega)
      rw [hv, iAt_of hv]
    have := ha _ (List.mem_of_getElem? (zip_at hn hja))
    simp only [decide_eq_true_eq] at this
    rw [h.a j n hn] at this
    unfold missB
    rw [decide_eq_false_iff_not]
    unfold mnI at this
    split at this <;> omega
  · intro ha z hz
    obtain ⟨j, hj⟩ := List.getElem?_of_mem hz
    obtain ⟨h1, h2⟩ := List.getElem?_zip_eq_some.1 hj
    have := ha j z.1 (List.getElem?_eq_some_iff.1 h1).1 h1
    unfold missB at this
    rw [decide_eq_false_iff_not] at this
    rw [decide_eq_true_eq, ← iAt_of h2, h.a j z.1 h1]
    unfold mnI
    split <;> omega
theorem st_spent {q : Pj} {l : List Int} {s : Sx} (h : StOf q l s) : s.p = spL q.works l := by
  apply List.ext_getElem?
  intro i
  unfold spL
  rcases Nat.lt_or_ge i 5 with hi | hi
  · rw [spK_at hi]
    obtain ⟨v, hv⟩ := get_of_lt (l := s.p) (k := i) (by rw [h.p5]; exact hi)
    rw [hv, ← iAt_of hv, h.p i hi, List.take_of_length_le]
    unfold spT
    rw [List.length_map, List.length_zip]
    omega
  · rw [List.getElem?_eq_none (by rw [h.p5]; exact hi), List.getElem?_eq_none (by unfold spK; simpa using hi)]
def yearsL (x : Wd) : List Int := (List.range (yearsN x)).map fun (k : Nat) => x.first + (k : Int)
/-- All ends of a beginning, as the reference goes through them. -/
def endsR (q : Pj) : Nat → List Int → List (List Int)
  | 0, l => [l]
  | r + 1, l => match q.works[l.length]? with
    | some x => (-1 :: yearsL x).flatMap fun y => endsR q r (l ++ [y])
    | none => []
def stepR (q : Pj) (b : Option (List Int × Int)) (l : List Int) : Option (List Int × Int) := if goodP q l && imp false b (costN q.works l) then some (l, costN q.works l) else b
theorem endsR_pre (q : Pj) : ∀ (r : Nat) (l e : List Int), e ∈ endsR q r l → ∃ t, e = l ++ t
  | 0, l, e, h => by
    simp only [endsR, List.mem_singleton] at h
    exact ⟨[], by simp [h]⟩
  | r + 1, l, e, h => by
    unfold endsR at h
    split at h
    · obtain ⟨y, _, hy⟩ := List.mem_flatMap.1 h
      obtain ⟨t, ht⟩ := endsR_pre q r _ e hy
      exact ⟨y :: t, by rw [ht]; simp⟩
    · simp at h
theorem foldR_bad {q : Pj} : ∀ (L : List (List Int)) (b : Option (List Int × Int)), (∀ e ∈ L, goodP q e = false) → L.foldl (stepR q) b = b
  | [], _, _ => rfl
  | e :: L, b, h => by
    rw [List.foldl_cons, show stepR q b e = b by unfold stepR; rw [h e (by simp)]; simp]
    exact foldR_bad L b fun x hx => h x (List.mem_cons_of_mem _ hx)
theorem yearsL_in {x : Wd} {y : Int} (h : y ∈ yearsL x) : x.first ≤ y ∧ y ≤ x.last := by
  obtain ⟨k, hk, rfl⟩ := List.mem_map.1 h
  have := List.mem_range.1 hk
  unfold yearsN at this
  omega
theorem okS_agree {vs : List Bool} {x : Wd} {y : Int} (hy : 0 ≤ y) (hv : -1 ≤ x.village) : okS vs (y, x) = agreeB vs x := by
  unfold okS agreeB
  rw [decide_eq_true hy]
  by_cases h : x.village = -1
  · rw [decide_eq_true h, decide_eq_false (show ¬ (0 ≤ x.village) by omega)]
    rfl
  · rw [decide_eq_false h, decide_eq_true (show 0 ≤ x.village by omega)]
    simp
theorem ends_ref {q : Pj} (hq : PlOk q) : ∀ (r : Nat) (l : List Int) (s : Sx) (b : Option (List Int × Int)), StOf q l s → (l.zip q.works).all (okS q.villages) = true → q.works.length - l.length = r →
    (ends (srch q (-1)) r s).foldl (stepE (srch q (-1)) false l) b = (endsR q r l).foldl (stepR q) b
  | 0, l, s, b, h, hc, _ => by
    simp only [ends, endsR, List.foldl_cons, List.foldl_nil]
    unfold stepE stepR goodP allowB
    rw [List.append_nil, hc, Bool.true_and, ← st_spent h, ← st_enough hq h, ← h.c]
    show (if (!(!paidB q.purses s.p) && enoughB q.needs s.a && imp false b s.p.sum) = true then some (l, s.p.sum) else b) = _
    rw [Bool.not_not]
  | r + 1, l, s, b, h, hc, hr => by
    obtain ⟨x, hx⟩ := get_of_lt (l := q.works) (k := l.length) (by omega)
    have hxo := hq.ws x (List.mem_of_getElem? hx)
    have key : ∀ (ys : List Int) (b : Option (List Int × Int)), (∀ y ∈ ys, (y = -1 ∨ (0 ≤ y ∧ y ≤ 4)) ∧ okS q.villages (y, x) = true) →
        (ys.flatMap fun y => (ends (srch q (-1)) r ((srch q (-1)).build s y)).map fun p => (y :: p.1, p.2)).foldl (stepE (srch q (-1)) false l) b = (ys.flatMap fun y => endsR q r (l ++ [y])).foldl (stepR q) b := by
      intro ys
      induction ys with
      | nil => intro b _; rfl
      | cons y ys ih =>
        intro b hys
        have hy := hys y (by simp)
        rw [List.flatMap_cons, List.flatMap_cons, List.foldl_append, List.foldl_append, fold_move]
        rw [ends_ref hq r (l ++ [y]) ((srch q (-1)).build s y) b (st_next hq h hx hy.1) (by rw [zip_snoc y l _ x hx, List.all_append, hc, List.all_cons, hy.2]; rfl) (by rw [List.length_append]; simp; omega)]
        exact ih _ fun z hz => hys z (List.mem_cons_of_mem _ hz)
    have hk : (srch q (-1)).kids s = -1 :: (if !agreeB q.villages x then [] else yearsL x) := by
      show kidsS q (-1) s = _
      unfold kidsS
      rw [h.n, hx]
      dsimp only
      rw [decide_eq_false (show ¬ ((l.length : Int) = -1) by omega), Bool.false_or]
      rfl
    have hok1 : okS q.villages (-1, x) = true := by unfold okS; rw [decide_eq_false (show ¬ ((0 : Int) ≤ -1) by omega)]; rfl
    unfold ends endsR
    rw [hx, hk]
    dsimp only
    cases hag : agreeB q.villages x with
    | true =>
      rw [show (if (!true) = true then ([] : List Int) else yearsL x) = yearsL x from rfl]
      refine key _ b fun y hy => ?_
      rcases List.mem_cons.1 hy with rfl | hy
      · exact ⟨.inl rfl, hok1⟩
      · have := yearsL_in hy
        exact ⟨.inr (by omega), by rw [okS_agree (by omega) hxo.2.2.2.2.2.1]; exact hag⟩
    | false =>
      rw [show (if (!false) = true then ([] : List Int) else yearsL x) = [] from rfl]
      rw [key [-1] b fun y hy => by
        rw [List.mem_singleton] at hy
        subst hy
        exact ⟨.inl rfl, hok1⟩]
      rw [List.flatMap_cons (x := -1) (xs := yearsL x), List.foldl_append, foldR_bad (List.flatMap _ (yearsL x))]
      · simp
      · intro e he
        obtain ⟨y, hy, hey⟩ := List.mem_flatMap.1 he
        obtain ⟨t, rfl⟩ := endsR_pre q r _ e hey
        have hyb := yearsL_in hy
        unfold goodP allowB
        rw [all_bad (k := l.length) (x := (y, x)) (zip_at (by simp) hx) (by rw [okS_agree (by omega) hxo.2.2.2.2.2.1]; exact hag)]
        rfl
def mergeO (b o : Option (List Int × Int)) : Option (List Int × Int) := match o with
  | none => b
  | some p => if imp false b p.2 then some p else b
theorem merge_step {q : Pj} {e : List Int} (b o : Option (List Int × Int)) : mergeO (stepR q b e) o = mergeO b (mergeO (stepR q none e) o) := by
  unfold stepR
  cases hg : goodP q e with
  | false =>
    simp only [Bool.false_and, Bool.false_eq_true, if_false]
    cases o with
    | none => rfl
    | some p => simp [mergeO, imp]
  | true =>
    simp only [Bool.true_and, imp, if_true]
    cases o with
    | none => cases b <;> simp [mergeO, imp]
    | some p =>
      cases b with
      | none =>
        simp only [mergeO, imp, if_true, Bool.not_false, Bool.true_and, decide_eq_true_eq]
        split <;> simp
      | some z =>
        simp only [mergeO, imp, Bool.not_false, Bool.true_and, decide_eq_true_eq]
        by_cases h1 : costN q.works e < z.2
        · by_cases h2 : p.2 < costN q.works e
          · have h3 : p.2 < z.2 := by omega
            simp [h1, h2, h3]
          · simp [h1, h2]
        · by_cases h2 : p.2 < costN q.works e
          · simp [h1, h2]
          · have h3 : ¬ (p.2 < z.2) := by omega
            simp [h1, h2, h3]
theorem merge_fold {q : Pj} : ∀ (L : List (List Int)) (b : Option (List Int × Int)), L.foldl (stepR q) b = mergeO b (L.foldl (stepR q) none)
  | [], b => rfl
  | e :: L, b => by
    rw [List.foldl_cons, List.foldl_cons, merge_fold L (stepR q b e), merge_fold L (stepR q none e), merge_step]
/-- The reference's recursion: the best plan that begins so, and whether there is one. -/
def refStep (q : Pj) (f : List Int → List Int × Bool) (l : List Int) (b : List Int × Bool) (y : Int) : List Int × Bool :=
  if (f (l ++ [y])).2 && (!b.2 || decide (costN q.works (f (l ++ [y])).1 < costN q.works b.1)) then ((f (l ++ [y])).1, true) else b
def refB (q : Pj) : Nat → List Int → List Int × Bool
  | 0, l => (l, goodP q l)
  | r + 1, l => match q.works[l.length]? with
    | some x => (yearsL x).foldl (refStep q (refB q r) l) (refB q r (l ++ [-1]))
    | none => (l, false)
def asO (ws : List Wd) (b : List Int × Bool) : Option (List Int × Int) := if b.2 then some (b.1, costN ws b.1) else none
theorem refStep_is {q : Pj} {f : List Int → List Int × Bool} {l : List Int} {b : List Int × Bool} {y : Int} : asO q.works (refStep q f l b y) = mergeO (asO q.works b) (asO q.works (f (l ++ [y]))) := by
  unfold refStep asO
  obtain ⟨bl, bb⟩ := b
  obtain ⟨fl, fb⟩ := f (l ++ [y])
  cases fb <;> cases bb
  · simp [mergeO]
  · simp [mergeO]
  · simp [mergeO, imp]
  · dsimp only
    by_cases h : costN q.works fl < costN q.works bl
    · simp [mergeO, imp, h]
    · simp [mergeO, imp, h]
theorem refB_is {q : Pj} : ∀ (r : Nat) (l : List Int), q.works.length - l.length = r → asO q.works (refB q r l) = (endsR q r l).foldl (stepR q) none
  | 0, l, _ => by
    show asO q.works (l, goodP q l) = stepR q none l
    unfold asO stepR
    cases goodP q l <;> rfl
  | r + 1, l, hr => by
    obtain ⟨x, hx⟩ := get_of_lt (l := q.works) (k := l.length) (by omega)
    unfold refB endsR
    rw [hx]
    dsimp only
    have ih : ∀ y : Int, asO q.works (refB q r (l ++ [y])) = (endsR q r (l ++ [y])).foldl (stepR q) none := fun y => refB_is r (l ++ [y]) (by rw [List.length_append]; simp; omega)
    have key : ∀ (ys : List Int) (b : List Int × Bool), asO q.works (ys.foldl (refStep q (refB q r) l) b) = (ys.flatMap fun y => endsR q r (l ++ [y])).foldl (stepR q) (asO q.works b) := by
      intro ys
      induction ys with
      | nil => intro b; rfl
      | cons y ys ihy =>
        intro b
        rw [List.foldl_cons, ihy, List.flatMap_cons, List.foldl_append, merge_fold (endsR q r (l ++ [y])), refStep_is, ih y]
    rw [key, ih, List.flatMap_cons, List.foldl_append]
/-- The search finds what the reference does. -/
theorem best_ref {q : Pj} (hq : PlOk q) : asO q.works (refB q q.works.length []) = bestD false q (-1) := by
  rw [refB_is q.works.length [] rfl]
  unfold bestD
  rw [show q.works.length - sx0.n = q.works.length from rfl]
  rw [(tryP_is (srch_ok q (-1) fun x hx => (hq.ws x hx).1) q.works.length sx0 [] [] none rfl (fun s hs => by simp at hs)).1]
  exact (ends_ref hq q.works.length [] sx0 none (st_zero hq) rfl rfl).symm
end Go.Proofs.Ytpnpnfjhjjdmgaa
