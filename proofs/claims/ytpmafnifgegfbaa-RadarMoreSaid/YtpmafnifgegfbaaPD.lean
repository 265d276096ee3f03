/- Plain law: a narrower survey. -/
import Derived.Test.YtpmafnifgegfbaaPB
namespace Go.Proofs.Ytpmafnifgegfbaa


theorem more_in {s x : Sd} (hs : 0 < s.spots.length) (hl : x.spots.length = s.spots.length) (ha : ∀ f, Agree x (freeL x) f → Agree s (freeL s) f) (hok : okS x (freeL x) = true) :
    okS s (freeL s) = true ∧ ∀ i, i < s.spots.length → ((learnN s i).x.lo ≤ (learnN x i).x.lo ∧ (learnN x i).x.hi ≤ (learnN s i).x.hi) ∧ (learnN s i).y.lo ≤ (learnN x i).y.lo ∧ (learnN x i).y.hi ≤ (learnN s i).y.hi := by
  have hex := (ok_iff (by omega)).1 hok
  refine ⟨(ok_iff hs).2 (let ⟨f, hf⟩ := hex; ⟨f, ha f hf⟩), fun i hi => ?_⟩
  obtain ⟨⟨f1, a1, b1⟩, ⟨f2, a2, b2⟩, ⟨f3, a3, b3⟩, ⟨f4, a4, b4⟩⟩ := learn_end hex (i := i) (by omega)
  have c1 := learn_has (ha f1 a1) hi
  have c2 := learn_has (ha f2 a2) hi
  have c3 := learn_has (ha f3 a3) hi
  have c4 := learn_has (ha f4 a4) hi
  omega
/-- A spot's range is narrower. -/
theorem more_spot {s : Sd} (h : SdOk s) {k : Nat} {p p' : Sp} (hk : s.spots[k]? = some p) (hp : rgOk p'.x ∧ rgOk p'.y) (hn : (p.x.lo ≤ p'.x.lo ∧ p'.x.hi ≤ p.x.hi) ∧ p.y.lo ≤ p'.y.lo ∧ p'.y.hi ≤ p.y.hi) (f : Nat → Mv) (ha : Agree (spotS s k p') (freeL (spotS s k p')) f) : Agree s (freeL s) f :=
  ((spotS_agree h hk hp fun m hm => by
    have h1 := mem_moves.1 hm
    refine mem_moves.2 ?_
    omega).1 ha).1
/-- Less of strain. -/
theorem more_strain {s : Sd} (h : SdOk s) {q : Int} (hq : 0 ≤ q ∧ q ≤ s.strain) : SdOk { s with strain := q } ∧ ∀ f, Agree { s with strain := q } (freeL { s with strain := q }) f → Agree s (freeL s) f := by
  have h' : SdOk { s with strain := q } := ⟨h.spots, h.few, by have := h.strain; exact ⟨hq.1, by show q ≤ 60; omega⟩, h.day, h.reads, h.spot, h.tool, h.read⟩
  refine ⟨h', fun f ha => ?_⟩
  obtain ⟨h1, h2⟩ := (agree_parts h'.toolIn).1 ha
  exact (agree_parts h.toolIn).2 ⟨field_wider (s' := { s with strain := q }) rfl (fun i p p' a b => by
    have a' : ({ s with strain := q } : Sd).spots[i]? = some p := a
    rw [a'] at b
    injection b with b
    subst b
    exact ⟨⟨Int.le_refl _, Int.le_refl _⟩, Int.le_refl _, Int.le_refl _⟩) hq.2 h1, h2⟩
/-- A tool is off by less. -/
theorem more_tool {s : Sd} (h : SdOk s) {k : Nat} {t : Tl} (hk : s.tools[k]? = some t) {e d : Int} (he : 0 ≤ e ∧ e ≤ t.err) (hd : 0 ≤ d ∧ d ≤ t.drift) :
    SdOk { s with tools := s.tools.set k { t with err := e, drift := d } } ∧ ∀ f, Agree { s with tools := s.tools.set k { t with err := e, drift := d } } (freeL { s with tools := s.tools.set k { t with err := e, drift := d } }) f → Agree s (freeL s) f := by
  have htl := h.tool t (List.mem_of_getElem? hk)
  have hkl := (List.getElem?_eq_some_iff.1 hk).1
  obtain ⟨u, hu⟩ : ∃ u : Tl, u = { t with err := e, drift := d } := ⟨_, rfl⟩
  obtain ⟨x, hx⟩ : ∃ x : Sd, x = { s with tools := s.tools.set k u } := ⟨_, rfl⟩
  rw [← hu, ← hx]
  have hlen : x.tools.length = s.tools.length := by rw [hx]; exact List.length_set
  have h' : SdOk x := by
    refine ⟨by rw [hx]; exact h.spots, by rw [hlen]; exact h.few, by rw [hx]; exact h.strain, by rw [hx]; exact h.day, by rw [hlen, hx]; exact h.reads, by rw [hx]; exact h.spot, fun v hv => ?_, by rw [hx]; exact h.read⟩
    have e1 : (x.spots.length : Int) = s.spots.length := by rw [hx]
    have e2 : x.day = s.day := by rw [hx]
    rw [e1, e2]
    rw [hx] at hv
    rcases List.mem_or_eq_of_mem_set hv with h1 | h1
    · exact h.tool v h1
    · rw [h1, hu]
      exact ⟨htl.spot, htl.a, htl.b, htl.ab, htl.turn, ⟨he.1, Int.le_trans he.2 htl.err.2⟩, ⟨hd.1, Int.le_trans hd.2 htl.drift.2⟩, htl.since⟩
  refine ⟨h', fun f ha => ?_⟩
  obtain ⟨h1, h2⟩ := (agree_parts h'.toolIn).1 ha
  have hf : FieldIn s f := by rw [hx] at h1; exact h1
  refine (agree_parts h.toolIn).2 ⟨hf, fun j v hv => ?_⟩
  have hfr : (freeL s).getD j none = none := free_none s j
  rw [hfr]
  by_cases e : k = j
  · subst e
    rw [hk] at hv
    injection hv with hv
    subst hv
    have h3 := h2 k u (by rw [hx]; simp only [List.getElem?_set]; rw [if_pos trivial, if_pos hkl])
    rw [free_none x k] at h3
    have e1 : readAt x k = readAt s k := by rw [hx]; rfl
    have e2 : x.day = s.day := by rw [hx]
    have e3 : u.spot = t.spot := by rw [hu]
    rw [e1, e2, e3] at h3
    refine agree_off (t' := u) (by rw [hu]) (by rw [hu]; rfl) ?_ h3
    have hday : 0 ≤ s.day - t.since := by have := htl.since; omega
    rw [hu]
    unfold offN
    dsimp only
    have := Int.mul_le_mul_of_nonneg_right hd.2 hday
    omega
  · have h3 := h2 j v (by rw [hx]; simp only [List.getElem?_set]; rw [if_neg e]; exact hv)
    rw [free_none x j] at h3
    rw [hx] at h3
    exact h3
/-- One tool more. -/
theorem more_with {s : Sd} (h : SdOk s) {t : Tl} {r : Int} (h' : SdOk { s with tools := s.tools ++ [t], reads := s.reads ++ [r] }) (f : Nat → Mv) (ha : Agree { s with tools := s.tools ++ [t], reads := s.reads ++ [r] } (freeL { s with tools := s.tools ++ [t], reads := s.reads ++ [r] }) f) : Agree s (freeL s) f := by
  obtain ⟨h1, h2⟩ := (agree_parts h'.toolIn).1 ha
  refine (agree_parts h.toolIn).2 ⟨h1, fun j v hv => ?_⟩
  have hj := (List.getElem?_eq_some_iff.1 hv).1
  have h3 := h2 j v (by show (s.tools ++ [t])[j]? = some v; rw [List.getElem?_append_left hj]; exact hv)
  rw [free_none] at h3
  rw [free_none]
  have e : readAt { s with tools := s.tools ++ [t], reads := s.reads ++ [r] } j = readAt s j := by
    unfold readAt
    rw [List.getD_eq_getElem?_getD, List.getD_eq_getElem?_getD]
    show ((s.reads ++ [r])[j]?).getD 0 = _
    rw [List.getElem?_append_left (by have := h.reads; omega)]
  rw [e] at h3
  exact h3

end Go.Proofs.Ytpmafnifgegfbaa
