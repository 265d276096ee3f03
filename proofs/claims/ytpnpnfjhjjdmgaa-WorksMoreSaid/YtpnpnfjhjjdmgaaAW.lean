/- What a work alone adds: plain laws of WorksAges; rows that are changed at one place. -/
import Derived.Test.YtpnpnfjhjjdmgaaAT
import Derived.Laws.OwnMore
namespace Go.Proofs.Ytpnpnfjhjjdmgaa

/-- The plan that builds one work alone. -/
def planA (n k : Nat) (f : Int) : List Int := (List.replicate n (-1)).set k f
theorem addsN_never (x : Wd) (y n : Int) : addsN x (-1) y n = 0 := by unfold addsN; rw [if_pos (.inl rfl)]
theorem togN_none (hi : Bool) (s : Nat) (y : Int) : ∀ ws : List Wd, togN hi s y ws (List.replicate ws.length (-1)) = 0
  | [] => rfl
  | x :: ws => by
    unfold togN togL
    rw [List.length_cons, List.replicate_succ, List.zip_cons_cons, List.map_cons, List.sum_cons, addsN_never]
    have := togN_none hi s y ws
    unfold togN togL at this
    omega
theorem togN_alone (hi : Bool) (s : Nat) (y f : Int) : ∀ (ws : List Wd) (k : Nat) (x : Wd), ws[k]? = some x → togN hi s y ws (planA ws.length k f) = addsN x f y (endR hi (rAt x.adds s))
  | [], k, x, h => by simp at h
  | z :: ws, 0, x, h => by
    obtain rfl : z = x := by simpa using h
    unfold togN togL planA
    rw [List.length_cons, List.replicate_succ, List.set_cons_zero, List.zip_cons_cons, List.map_cons, List.sum_cons]
    have := togN_none hi s y ws
    unfold togN togL at this
    dsimp only
    omega
  | z :: ws, k + 1, x, h => by
    have h' : ws[k]? = some x := by simpa using h
    unfold togN togL planA
    rw [List.length_cons, List.replicate_succ, List.set_cons_succ, List.zip_cons_cons, List.map_cons, List.sum_cons]
    dsimp only
    rw [addsN_never]
    have := togN_alone hi s y f ws k x h'
    unfold togN togL planA at this
    omega
theorem planA_ok : ∀ (ws : List Wd) (k : Nat) (x : Wd), ws[k]? = some x → x.first ≤ x.last → planB ws (planA ws.length k x.first) = true := by
  have none : ∀ ws : List Wd, ((List.replicate ws.length (-1 : Int)).zip ws).all okY = true := by
    intro ws
    induction ws with
    | nil => rfl
    | cons z ws ih =>
      rw [List.length_cons, List.replicate_succ, List.zip_cons_cons, List.all_cons, ih]
      rfl
  have one : ∀ (ws : List Wd) (k : Nat) (x : Wd), ws[k]? = some x → x.first ≤ x.last → ((planA ws.length k x.first).zip ws).all okY = true := by
    intro ws
    induction ws with
    | nil => intro k x h; simp at h
    | cons z ws ih =>
      intro k x h hx
      cases k with
      | zero =>
        obtain rfl : z = x := by simpa using h
        unfold planA
        rw [List.length_cons, List.replicate_succ, List.set_cons_zero, List.zip_cons_cons, List.all_cons, none]
        simp [okY, inB, hx]
      | succ k =>
        have h' : ws[k]? = some x := by simpa using h
        have := ih k x h' hx
        unfold planA at this ⊢
        rw [List.length_cons, List.replicate_succ, List.set_cons_succ, List.zip_cons_cons, List.all_cons, this]
        rfl
  intro ws k x h hx
  unfold planB
  rw [one ws k x h hx, decide_eq_true (by unfold planA; simp)]
  rfl
theorem planA_len (n k : Nat) (f : Int) : (planA n k f).length = n := by unfold planA; simp
theorem planA_at {n k : Nat} {f : Int} (h : k < n) : (planA n k f)[k]? = some f := by unfold planA; simp [h]
theorem mul_mono {n a b : Int} (hn : 0 ≤ n) (h : a ≤ b) : n * a / 1000 ≤ n * b / 1000 := by
  have := Int.mul_le_mul_of_nonneg_left h hn
  omega
theorem addsN_before {x : Wd} {f y n : Int} (h : y < f) : addsN x f y n = 0 := by unfold addsN; rw [if_pos (.inr h)]
theorem addsN_first {x : Wd} {f n : Int} (h : f ≠ -1) : addsN x f f n = n := by
  unfold addsN
  rw [if_neg (by omega), show f - f = 0 by omega, Int.mul_zero, show mxI 0 (1000 - 0) = 1000 from rfl]
  omega
theorem addsN_later {x : Wd} {f y n : Int} (h : f ≠ -1) (hy : f ≤ y) (hn : 0 ≤ n) (ha : 0 ≤ x.age) : addsN x f (y + 1) n ≤ addsN x f y n := by
  unfold addsN
  rw [if_neg (by omega), if_neg (by omega)]
  refine mul_mono hn ?_
  have : x.age * (y - f) ≤ x.age * (y + 1 - f) := Int.mul_le_mul_of_nonneg_left (by omega) ha
  unfold mxI
  split <;> split <;> omega
theorem addsN_older {x : Wd} {f y n a : Int} (hf : f ≠ -1) (hn : 0 ≤ n) (ha : x.age ≤ a) : addsN { x with age := a } f y n ≤ addsN x f y n := by
  unfold addsN
  by_cases h : y < f
  · rw [if_pos (.inr h), if_pos (.inr h)]
    exact Int.le_refl _
  · rw [if_neg (by omega), if_neg (by omega)]
    refine mul_mono hn ?_
    have : x.age * (y - f) ≤ a * (y - f) := Int.mul_le_mul_of_nonneg_right ha (by omega)
    dsimp only
    unfold mxI
    split <;> split <;> omega
/-- A project in which a work has another age. -/
def ageQ (q : Pj) (k : Nat) (a : Int) : Pj := { q with works := q.works.modify k (fun x => { x with age := a }) }
theorem modify_at {α : Type} {l : List α} {k : Nat} {x : α} (f : α → α) (h : l[k]? = some x) : (l.modify k f)[k]? = some (f x) := by
  rw [List.getElem?_modify, h]
  simp
theorem modify_mem {α : Type} {l : List α} {k : Nat} {f : α → α} {y : α} (h : y ∈ l.modify k f) : y ∈ l ∨ ∃ x ∈ l, y = f x := by
  obtain ⟨i, hi⟩ := List.getElem?_of_mem h
  rw [List.getElem?_modify] at hi
  cases hl : l[i]? with
  | none => rw [hl] at hi; cases hi
  | some x =>
    rw [hl] at hi
    injection hi with hi
    by_cases hk : k = i
    · simp [hk] at hi
      exact .inr ⟨x, List.mem_of_getElem? hl, hi.symm⟩
    · simp [hk] at hi
      exact .inl (hi ▸ List.mem_of_getElem? hl)
structure FaultOk (q : Pj) : Prop where
  wn : q.works.length ≤ 8
  nn : q.needs.length ≤ 20
  vn : q.villages.length ≤ 6
  years : inB q.years 1 5 = true
  slopes : inB q.slopes 1 6 = true
  pn : (q.purses.length : Int) = q.years
  ps : ∀ n ∈ q.purses, inB n 0 1000000 = true
  ws : ∀ x ∈ q.works, wdB q.years q.slopes q.villages.length x = true
  ns : ∀ x ∈ q.needs, ndB q.years q.slopes x = true
theorem faultOk_iff {q : Pj} : faultN q = 0 ↔ FaultOk q := by
  obtain ⟨years, slopes, works, needs, villages, purses⟩ := q
  unfold faultN
  dsimp only
  constructor
  · intro h
    split at h
    · cases h
    · rename_i hn
      split at h
      · rename_i hb
        simp only [Bool.and_eq_true, List.all_eq_true, decide_eq_true_eq] at hb
        exact ⟨by show works.length ≤ 8; omega, by show needs.length ≤ 20; omega, by show villages.length ≤ 6; omega, hb.1.1.1.1.1, hb.1.1.1.1.2, hb.1.1.1.2, hb.1.1.2, hb.1.2, hb.2⟩
      · cases h
  · intro h
    have h1 := h.wn
    have h2 := h.nn
    have h3 := h.vn
    dsimp only at h1 h2 h3
    rw [if_neg (by omega), if_pos]
    simp only [Bool.and_eq_true, List.all_eq_true, decide_eq_true_eq]
    exact ⟨⟨⟨⟨⟨h.years, h.slopes⟩, h.pn⟩, h.ps⟩, h.ws⟩, h.ns⟩
theorem ageQ_fault {q : Pj} {k : Nat} {a : Int} (h : faultN q = 0) (h0 : 0 ≤ a) (h1 : a ≤ 1000) : faultN (ageQ q k a) = 0 := by
  rw [faultOk_iff] at h ⊢
  refine ⟨by show (q.works.modify k _).length ≤ 8; rw [List.length_modify]; exact h.wn, h.nn, h.vn, h.years, h.slopes, h.pn, h.ps, ?_, h.ns⟩
  intro y hy
  rcases modify_mem hy with hy | ⟨x, hx, rfl⟩
  · exact h.ws y hy
  · have := h.ws x hx
    simp only [wdB, Bool.and_eq_true, inB, decide_eq_true_eq] at this ⊢
    exact ⟨⟨⟨⟨⟨⟨⟨this.1.1.1.1.1.1.1, this.1.1.1.1.1.1.2⟩, this.1.1.1.1.1.2⟩, this.1.1.1.1.2⟩, ⟨h0, h1⟩⟩, this.1.1.2⟩, this.1.2⟩, this.2⟩
theorem ageQ_thin {q : Pj} {k : Nat} {a : Int} (h : thinP q = true) : thinP (ageQ q k a) = true := by
  unfold thinP at h ⊢
  simp only [Bool.and_eq_true] at h ⊢
  refine ⟨⟨⟨⟨?_, by simpa [ageQ] using h.1.1.1.2⟩, h.1.1.2⟩, h.1.2⟩, h.2⟩
  have hw := h.1.1.1.1
  rw [List.all_eq_true] at hw ⊢
  intro y hy
  rcases modify_mem hy with hy | ⟨x, hx, rfl⟩
  · exact hw y hy
  · exact hw x hx
theorem flat_put {α : Type} {enc : α → List Value} {s : Nat} (he : ∀ x, (enc x).length = s) {x' : α} {u : Value} {j : Nat} (hj : j < s) : ∀ (l : List α) (k : Nat) (x : α), l[k]? = some x → enc x' = (enc x).set j u → (l.flatMap enc).set (k * s + j) u = (l.set k x').flatMap enc
  | [], k, x, h, _ => by simp at h
  | z :: l, 0, x, h, hx => by
    obtain rfl : z = x := by simpa using h
    rw [List.set_cons_zero, List.flatMap_cons, List.flatMap_cons, hx, Nat.zero_mul, Nat.zero_add, List.set_append_left _ _ (by rw [he]; exact hj)]
  | z :: l, k + 1, x, h, hx => by
    have h' : l[k]? = some x := by simpa using h
    rw [List.set_cons_succ, List.flatMap_cons, List.flatMap_cons, ← flat_put he hj l k x h' hx, List.set_append_right _ _ (by rw [he, Nat.add_mul]; omega), he, show (k + 1) * s + j - s = k * s + j by rw [Nat.add_mul]; omega]
theorem set_modify {α : Type} {l : List α} {k : Nat} {x : α} {f : α → α} (h : l[k]? = some x) : l.set k (f x) = l.modify k f := by
  apply List.ext_getElem?
  intro i
  rw [List.getElem?_set, List.getElem?_modify]
  by_cases hk : k = i
  · subst hk
    obtain ⟨hl, hx⟩ := List.getElem?_eq_some_iff.1 h
    simp [hl, hx]
  · simp [hk]
theorem map_modify {α β : Type} (f : α → β) (g : α → α) (g' : β → β) (hg : ∀ x, f (g x) = g' (f x)) (l : List α) (k : Nat) : (l.modify k g).map f = (l.map f).modify k g' := by
  apply List.ext_getElem?
  intro i
  rw [List.getElem?_map, List.getElem?_modify, List.getElem?_modify, List.getElem?_map]
  cases l[i]? with
  | none => rfl
  | some x =>
    by_cases hk : k = i
    · simp [hk, hg]
    · simp [hk]
theorem addsV_alone {q : Pj} {k s : Nat} {x : Wd} {y : Int} {r : Rg} (hq : faultN q = 0) (hx : q.works[k]? = some x) (hr : x.adds[s]? = some r) (hs : (s : Int) < q.slopes) (hy : 0 ≤ y ∧ y < q.years) :
    addsV q (planA q.works.length k x.first) s y = .tuple #[.agg #[vi (addsN x x.first y r.lo), vi (addsN x x.first y r.hi)], vi 0] := by
  have hf := (faultOk_iff.1 hq).ws x (List.mem_of_getElem? hx)
  have hw := wdB_parts hf
  have hc : checkN q (planA q.works.length k x.first) = 0 := by
    unfold checkN
    rw [if_pos hq, planA_ok q.works k x hx hw.2.1.2.1]
    rfl
  have he : addsE q (planA q.works.length k x.first) s y = 0 := by
    unfold addsE
    rw [if_pos hc, if_pos]
    simp only [inB, Bool.and_eq_true, decide_eq_true_eq]
    omega
  unfold addsV
  rw [if_pos he, togN_alone _ _ _ _ _ _ _ hx, togN_alone _ _ _ _ _ _ _ hx, Int.toNat_natCast, rAt_of hr]
  rfl
/-- What a work alone adds, by the program. -/
theorem alone_any {p1 : Pm} {q : Pj} {n k s : Nat} {x : Wd} {r : Rg} {y : Nat} (hj : p1.pj = q) (few : PmFew p1) (hn : q.works.length = n) (hn8 : n ≤ 1000) (hq : faultN q = 0) (hx : q.works[k]? = some x) (hr : x.adds[s]? = some r) (hs : (s : Int) < q.slopes) (hy : (y : Int) < q.years) {L : Option Addr} {lp : Nat} {V : World} (hok : PmOk p1 V) (hL : Row intL 1 V V.heap.size L (planA n k x.first)) :
    Calls Try.prog 20 #[pmV p1, .slice L n lp, .int .i64 s, .int .i64 y] V fun e w' => e = .returned (.tuple #[.agg #[vi (addsN x x.first y r.lo), vi (addsN x x.first y r.hi)], vi 0]) ∧ newer V w' := by
  subst hn
  have h := worksAdds_any p1 (planA q.works.length k x.first) L lp s y V hok few (by rw [planA_len]; exact hn8) hL
  rw [hj, addsV_alone hq hx hr hs ⟨by omega, hy⟩, planA_len] at h
  exact h
theorem planCopy_any {n k : Nat} {f : Int} {A : Option Addr} {c : Nat} {V : World} (hn8 : n ≤ 1000) (hr : Row intL 1 V V.heap.size A (planA n k f)) :
    Calls Try.prog 21 #[.slice A n c] V fun e w' => (∃ A' c', e = .returned (.slice A' n c') ∧ Row intL 1 w' w'.heap.size A' (planA n k f)) ∧ newer V w' := by
  have h := lawListO (planA n k f) A c V (by rw [planA_len]; exact hn8) hr
  rw [planA_len] at h
  refine h.mono ?_
  rintro e w' ⟨⟨A', c', rfl, ho⟩, hb⟩
  exact ⟨⟨A', c', rfl, row_of_own (enc := intL) (size := 1) (by omega) (fun _ => rfl) ho⟩, hb⟩
/-- What the last year's work added, at the head of a year. -/
def LastOk (x : Wd) (r : Rg) (y lo hi : Int) : Prop := (y ≤ x.first → lo = 10000 ∧ hi = 10000) ∧ (x.first < y → lo = addsN x x.first (y - 1) r.lo ∧ hi = addsN x x.first (y - 1) r.hi)
theorem last_le {x : Wd} {r : Rg} {y lo hi : Int} (h : LastOk x r y lo hi) (hf : 0 ≤ x.first) (ha : 0 ≤ x.age) (hr : 0 ≤ r.lo ∧ r.lo ≤ r.hi ∧ r.hi ≤ 10000) (hy : x.first ≤ y) : addsN x x.first y r.lo ≤ lo ∧ addsN x x.first y r.hi ≤ hi := by
  by_cases hy2 : x.first < y
  · obtain ⟨rfl, rfl⟩ := h.2 hy2
    have h1 := addsN_later (x := x) (f := x.first) (y := y - 1) (n := r.lo) (by omega) (by omega) hr.1 ha
    have h2 := addsN_later (x := x) (f := x.first) (y := y - 1) (n := r.hi) (by omega) (by omega) (by omega) ha
    rw [show y - 1 + 1 = y by omega] at h1 h2
    exact ⟨h1, h2⟩
  · obtain ⟨rfl, rfl⟩ := h.1 (by omega)
    exact ⟨(addsN_bd hr.1 (by omega) ha).2, (addsN_bd (by omega) hr.2.2 ha).2⟩
theorem last_next {x : Wd} {r : Rg} {y : Int} (hy : x.first ≤ y) : LastOk x r (y + 1) (addsN x x.first y r.lo) (addsN x x.first y r.hi) :=
  ⟨fun h => by omega, fun _ => by rw [show y + 1 - 1 = y by omega]; exact ⟨rfl, rfl⟩⟩
theorem last_still {x : Wd} {r : Rg} {y lo hi : Int} (h : LastOk x r y lo hi) (hy : y < x.first) : LastOk x r (y + 1) lo hi :=
  ⟨fun _ => h.1 (by omega), fun h2 => by omega⟩
/-- A row of one's own that is not empty begins somewhere. -/
theorem own_some {w : World} {base : Nat} {e : TypeId} {size n cap : Nat} {A : Option Addr} {xs : List Value} (h : w.ownsRow base e size (.slice A n cap) n xs) (hn : 0 < n) : ∃ g, A = some ⟨g, 0, none⟩ ∧ base ≤ g := by
  rcases h.2 with ⟨_, h0⟩ | ⟨g, cap', cur, h', hb, _⟩
  · omega
  · simp only [Value.slice.injEq, true_and] at h'
    exact ⟨g, h'.1, hb⟩
end Go.Proofs.Ytpnpnfjhjjdmgaa
