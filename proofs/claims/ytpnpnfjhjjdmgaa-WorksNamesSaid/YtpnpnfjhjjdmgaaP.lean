/- The search for the best plan, on data. -/
import Derived.Test.YtpnpnfjhjjdmgaaO
namespace Go.Proofs.Ytpnpnfjhjjdmgaa

def kidsS (q : Pj) (wo : Int) (s : Sx) : List Int := match q.works[s.n]? with
  | some x => -1 :: (if decide ((s.n : Int) = wo) || !agreeB q.villages x then [] else (List.range (yearsN x)).map fun (k : Nat) => x.first + (k : Int))
  | none => []
def bldS (q : Pj) (s : Sx) (y : Int) : Sx := match q.works[s.n]? with
  | some x => buildS x q.needs s y
  | none => s
def srch (q : Pj) (wo : Int) : Srch Sx Int where
  rem s := q.works.length - s.n
  kids := kidsS q wo
  build := bldS q
  cost s := s.p.sum
  cut s := !paidB q.purses s.p
  enough s := enoughB q.needs s.a
theorem sum_set (l : List Int) (d : Int) : ∀ i, i < l.length → (l.set i (iAt l i + d)).sum = l.sum + d := by
  induction l with
  | nil => intro i hi; simp at hi
  | cons x l ih =>
    intro i hi
    cases i with
    | zero =>
      simp only [List.set_cons_zero, List.sum_cons]
      have : iAt (x :: l) 0 = x := rfl
      omega
    | succ i =>
      simp only [List.set_cons_succ, List.sum_cons]
      have h1 : iAt (x :: l) (i + 1) = iAt l i := rfl
      rw [h1, ih i (by simpa using hi)]
      omega
theorem take_sum_set (l : List Int) (d : Int) (hd : 0 ≤ d) (i k : Nat) : (l.take k).sum ≤ ((l.set i (iAt l i + d)).take k).sum := by
  rcases Nat.lt_or_ge i k with hik | hik
  · rcases Nat.lt_or_ge i l.length with hi | hi
    · rw [List.take_set]
      have e : iAt l i = iAt (l.take k) i := by unfold iAt; rw [List.getElem?_take, if_pos hik]
      rw [e, sum_set _ _ _ (by rw [List.length_take]; omega)]
      omega
    · rw [List.set_eq_of_length_le hi]
      exact Int.le_refl _
  · rw [List.take_set_of_le hik]
    exact Int.le_refl _
theorem sum_set_le (l : List Int) (d : Int) (hd : 0 ≤ d) (i : Nat) : l.sum ≤ (l.set i (iAt l i + d)).sum := by
  have h := take_sum_set l d hd i l.length
  rw [List.take_length] at h
  have e : (l.set i (iAt l i + d)).take l.length = l.set i (iAt l i + d) := by rw [List.take_of_length_le (by simp)]
  rwa [e] at h
theorem bldS_n (q : Pj) (s : Sx) (y : Int) (h : s.n < q.works.length) : (bldS q s y).n = s.n + 1 := by
  obtain ⟨x, hx⟩ := get_of_lt h
  unfold bldS
  rw [hx]
  dsimp only
  unfold buildS
  split <;> rfl
theorem bldS_at {q : Pj} {s : Sx} {x : Wd} (y : Int) (h : q.works[s.n]? = some x) : bldS q s y = buildS x q.needs s y := by
  unfold bldS
  rw [h]
theorem srch_ok (q : Pj) (wo : Int) (hq : ∀ x ∈ q.works, 0 ≤ x.price) : SrchOk (srch q wo) where
  less s y h := by
    have h : 0 < q.works.length - s.n := h
    show q.works.length - (bldS q s y).n + 1 = q.works.length - s.n
    rw [bldS_n q s y (by omega)]
    omega
  dear s y := by
    show s.p.sum ≤ (bldS q s y).p.sum
    unfold bldS
    split
    · rename_i x hx
      unfold buildS
      split
      · exact Int.le_refl _
      · exact sum_set_le _ _ (hq x (List.mem_of_getElem? hx)) _
    · exact Int.le_refl _
  cut s y h := by
    have h : (!paidB q.purses s.p) = true := h
    show (!paidB q.purses (bldS q s y).p) = true
    unfold bldS
    split
    · rename_i x hx
      unfold buildS
      split
      · exact h
      · dsimp only
        rw [Bool.not_eq_true'] at h ⊢
        unfold paidB at h ⊢
        rw [List.all_eq_false] at h ⊢
        obtain ⟨z, hz, hlt⟩ := h
        refine ⟨z, hz, ?_⟩
        have := take_sum_set s.p x.price (hq x (List.mem_of_getElem? hx)) y.toNat (z + 1)
        simp only [decide_eq_true_eq] at hlt ⊢
        omega
    · exact h
/-- What holds of a state while plans are tried. -/
structure SxGo (p : Pm) (s : Sx) : Prop where
  ok : SxOk s
  n : s.n ≤ p.ws.length
  a : ∀ z ∈ s.a, 0 ≤ z ∧ z ≤ 10000
  p : ∀ z ∈ s.p, 0 ≤ z ∧ z ≤ (s.n : Int) * 1000000
theorem SxGo.inn {p : Pm} {s : Sx} (h : SxGo p s) (hp : PjOk p) : SxIn s := by
  have h8 := hp.wn
  have hn := h.n
  refine ⟨h.ok, by unfold inI; omega, fun z hz => ?_, fun z hz => ?_⟩
  · have := h.a z hz
    unfold inI
    omega
  · have := h.p z hz
    unfold inI
    omega
theorem SxGo.a6 {p : Pm} {s : Sx} (h : SxGo p s) : ∀ z ∈ s.a, 0 ≤ z ∧ z ≤ 1000000 := fun z hz => by have := h.a z hz; omega
theorem SxGo.p9 {p : Pm} {s : Sx} (h : SxGo p s) (hp : PjOk p) : ∀ z ∈ s.p, 0 ≤ z ∧ z ≤ 1000000000 := fun z hz => by
  have := h.p z hz
  have := hp.wn
  have := h.n
  omega
theorem buildA_bd {x : Wd} {y : Int} {ns : List Nd} {a : List Int} (hx : ∀ r ∈ x.adds, 0 ≤ r.lo ∧ r.lo ≤ 10000) (hg : 0 ≤ x.age) (hn : ∀ n ∈ ns, 0 ≤ n.due ∧ n.due ≤ 10000) (ha : ∀ z ∈ a, 0 ≤ z ∧ z ≤ 10000) : ∀ k, ∀ z ∈ buildA x y ns a k, 0 ≤ z ∧ z ≤ 10000
  | 0 => ha
  | k + 1 => by
    unfold buildA
    split
    · rename_i n hnk
      intro z hz
      rcases List.mem_or_eq_of_mem_set hz with h | rfl
      · exact buildA_bd hx hg hn ha k z h
      · have h1 := hn n (List.mem_of_getElem? hnk)
        have h2 : 0 ≤ iAt a k := by
          unfold iAt
          cases hak : a[k]? with
          | none => exact Int.le_refl _
          | some v => exact (ha v (List.mem_of_getElem? hak)).1
        have h3 : 0 ≤ (rAt x.adds n.slope.toNat).lo ∧ (rAt x.adds n.slope.toNat).lo ≤ 10000 := by
          cases hr : x.adds[n.slope.toNat]? with
          | none => unfold rAt; rw [hr]; decide
          | some r => rw [rAt_of hr]; exact hx r (List.mem_of_getElem? hr)
        have h4 := addsN_bd (x := x) (built := y) (year := n.year) h3.1 h3.2 hg
        unfold addU mnI
        split <;> omega
    · exact buildA_bd hx hg hn ha k
theorem SxGo.bld {p : Pm} {s : Sx} {x : Wk} (h : SxGo p s) (hp : PjOk p) (hx : p.ws[s.n]? = some x) (y : Int) : SxGo p (bldS p.pj s y) := by
  have hlt := (List.getElem?_eq_some_iff.1 hx).1
  have hxd : p.pj.works[s.n]? = some x.d := by simp [Pm.pj, hx]
  rw [bldS_at y hxd]
  have hw := wdB_parts (hp.ws x (List.mem_of_getElem? hx))
  unfold buildS
  split
  · exact ⟨⟨h.ok.a, h.ok.p⟩, hlt, h.a, fun z hz => by have := h.p z hz; dsimp only; omega⟩
  · refine ⟨⟨?_, ?_⟩, hlt, ?_, ?_⟩
    · show (buildA _ _ _ _ _).length = 20
      rw [buildA_len]
      exact h.ok.a
    · show (List.set _ _ _).length = 5
      rw [List.length_set]
      exact h.ok.p
    · refine buildA_bd (fun r hr => endR_bd (hi := false) (hw.2.2.2.2.2 r hr)) hw.2.2.1.1 (fun n hn => ?_) h.a _
      have := hp.ns n hn
      simp only [ndB, inB, Bool.and_eq_true, decide_eq_true_eq] at this
      omega
    · intro z hz
      dsimp only at hz ⊢
      rcases List.mem_or_eq_of_mem_set hz with h1 | rfl
      · have := h.p z h1
        omega
      · have h2 : 0 ≤ iAt s.p y.toNat ∧ iAt s.p y.toNat ≤ (s.n : Int) * 1000000 := by
          unfold iAt
          cases hak : s.p[y.toNat]? with
          | none => exact ⟨Int.le_refl _, by show (0 : Int) ≤ _; omega⟩
          | some v => exact h.p v (List.mem_of_getElem? hak)
        have := hw.1
        omega
def sx0 : Sx := ⟨0, List.replicate 20 0, List.replicate 5 0⟩
theorem sx0_go (p : Pm) : SxGo p sx0 :=
  ⟨⟨rfl, rfl⟩, Nat.zero_le _, fun z hz => by rw [List.eq_of_mem_replicate hz]; omega, fun z hz => by rw [List.eq_of_mem_replicate hz]; exact ⟨Int.le_refl _, by show (0 : Int) ≤ _; omega⟩⟩
end Go.Proofs.Ytpnpnfjhjjdmgaa
