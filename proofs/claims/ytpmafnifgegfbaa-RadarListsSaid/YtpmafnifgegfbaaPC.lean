/- Plain law: whole turns that are known. -/
import Derived.Test.YtpmafnifgegfbaaPA
namespace Go.Proofs.Ytpmafnifgegfbaa


/-- The first tools know their turns. -/
def certN (s : Sd) (l : List Int) : Nat → Sd
  | 0 => s
  | i + 1 => match s.tools[i]? with
    | some t => if t.turn = 0 then certN s l i else { certN s l i with tools := (certN s l i).tools.set i { t with turn := 0 }, reads := (certN s l i).reads.set i (readAt s i + t.turn * l.getD (placeN s.tools i) 0) }
    | none => certN s l i
theorem cert_yes {s : Sd} {l : List Int} {i : Nat} {t : Tl} (h : s.tools[i]? = some t) (hT : t.turn ≠ 0) : certN s l (i + 1) = { certN s l i with tools := (certN s l i).tools.set i { t with turn := 0 }, reads := (certN s l i).reads.set i (readAt s i + t.turn * l.getD (placeN s.tools i) 0) } := by
  simp only [certN, h, if_neg hT]
theorem cert_no {s : Sd} {l : List Int} {i : Nat} {t : Tl} (h : s.tools[i]? = some t) (hT : t.turn = 0) : certN s l (i + 1) = certN s l i := by
  simp only [certN, h, if_pos hT]
theorem cert_len (s : Sd) (l : List Int) : ∀ i : Nat, (certN s l i).tools.length = s.tools.length ∧ (certN s l i).reads.length = s.reads.length ∧ (certN s l i).spots = s.spots ∧ (certN s l i).strain = s.strain ∧ (certN s l i).day = s.day
  | 0 => ⟨rfl, rfl, rfl, rfl, rfl⟩
  | i + 1 => by
    have h := cert_len s l i
    cases ht : s.tools[i]? with
    | none => simp only [certN, ht]; exact h
    | some t =>
      by_cases hT : t.turn = 0
      · rw [cert_no ht hT]; exact h
      · rw [cert_yes ht hT]
        exact ⟨by simp only [List.length_set]; exact h.1, by simp only [List.length_set]; exact h.2.1, h.2.2⟩
theorem cert_tool (s : Sd) (l : List Int) : ∀ (i j : Nat) (t : Tl), s.tools[j]? = some t → (certN s l i).tools[j]? = some (if j < i then { t with turn := 0 } else t)
  | 0, j, t, h => by rw [if_neg (by omega)]; exact h
  | i + 1, j, t, h => by
    have ih := cert_tool s l i j t h
    cases hi : s.tools[i]? with
    | none =>
      have hj := (List.getElem?_eq_some_iff.1 h).1
      have hi2 := List.getElem?_eq_none_iff.1 hi
      simp only [certN, hi]
      rw [ih, if_pos (by omega), if_pos (by omega)]
    | some u =>
      by_cases hT : u.turn = 0
      · rw [cert_no hi hT, ih]
        by_cases e : j = i
        · subst e
          rw [h] at hi
          injection hi with hi
          subst hi
          rw [if_neg (by omega), if_pos (by omega)]
          rw [← hT]
        · by_cases e2 : j < i
          · rw [if_pos e2, if_pos (by omega)]
          · rw [if_neg e2, if_neg (by omega)]
      · rw [cert_yes hi hT]
        simp only [List.getElem?_set]
        by_cases e : i = j
        · subst e
          rw [h] at hi
          injection hi with hi
          subst hi
          rw [if_pos rfl, if_pos (by rw [(cert_len s l i).1]; exact (List.getElem?_eq_some_iff.1 h).1), if_pos (by omega)]
        · rw [if_neg e, ih]
          by_cases e2 : j < i
          · rw [if_pos e2, if_pos (by omega)]
          · rw [if_neg e2, if_neg (by omega)]
theorem cert_read {s : Sd} (h : SdOk s) (l : List Int) : ∀ (i j : Nat) (t : Tl), s.tools[j]? = some t → readAt (certN s l i) j = if j < i ∧ t.turn ≠ 0 then readAt s j + t.turn * l.getD (placeN s.tools j) 0 else readAt s j
  | 0, j, t, ht => by rw [if_neg (by omega)]; rfl
  | i + 1, j, t, ht => by
    have ih := cert_read h l i j t ht
    cases hi : s.tools[i]? with
    | none =>
      have hj := (List.getElem?_eq_some_iff.1 ht).1
      have hi2 := List.getElem?_eq_none_iff.1 hi
      simp only [certN, hi]
      rw [ih]
      by_cases hT : t.turn = 0
      · rw [if_neg (by simp [hT]), if_neg (by simp [hT])]
      · rw [if_pos ⟨by omega, hT⟩, if_pos ⟨by omega, hT⟩]
    | some u =>
      by_cases hT : u.turn = 0
      · rw [cert_no hi hT, ih]
        by_cases e : j = i
        · subst e
          rw [ht] at hi
          injection hi with hi
          subst hi
          rw [if_neg (by omega), if_neg (by simp [hT])]
        · by_cases e2 : j < i ∧ t.turn ≠ 0
          · rw [if_pos e2, if_pos ⟨by omega, e2.2⟩]
          · rw [if_neg e2, if_neg (by rintro ⟨a, b⟩; exact e2 ⟨by omega, b⟩)]
      · rw [cert_yes hi hT]
        by_cases e : j = i
        · subst e
          rw [ht] at hi
          injection hi with hi
          subst hi
          rw [if_pos ⟨by omega, hT⟩]
          have hj : j < (certN s l j).reads.length := by rw [(cert_len s l j).2.1, h.reads]; exact (List.getElem?_eq_some_iff.1 ht).1
          unfold readAt
          simp only [List.getD_eq_getElem?_getD, List.getElem?_set]
          rw [if_pos trivial, if_pos hj]
          rfl
        · have e3 : readAt { certN s l i with tools := (certN s l i).tools.set i { u with turn := 0 }, reads := (certN s l i).reads.set i (readAt s i + u.turn * l.getD (placeN s.tools i) 0) } j = readAt (certN s l i) j := by
            unfold readAt
            simp only [List.getD_eq_getElem?_getD, List.getElem?_set]
            rw [if_neg (Ne.symm e)]
          rw [e3, ih]
          by_cases e2 : j < i ∧ t.turn ≠ 0
          · rw [if_pos e2, if_pos ⟨by omega, e2.2⟩]
          · rw [if_neg e2, if_neg (by rintro ⟨a, b⟩; exact e2 ⟨by omega, b⟩)]
/-- The turns of a list. -/
def ksOf : List Tl → List Int → List (Option Int)
  | [], _ => []
  | t :: ts, l => if t.turn = 0 then none :: ksOf ts l else some (l.getD 0 0) :: ksOf ts (l.drop 1)
theorem ksOf_len : ∀ (ts : List Tl) (l : List Int), (ksOf ts l).length = ts.length
  | [], _ => rfl
  | t :: ts, l => by
    unfold ksOf
    split
    · rw [List.length_cons, List.length_cons, ksOf_len ts l]
    · rw [List.length_cons, List.length_cons, ksOf_len ts _]
theorem placeN_cons (u : Tl) (ts : List Tl) (k : Nat) : placeN (u :: ts) (k + 1) = placeN ts k + if u.turn = 0 then 0 else 1 := by
  unfold placeN
  rw [List.take_succ_cons]
  by_cases e : u.turn = 0 <;> simp [e]
theorem getD_drop (l : List Int) (n : Nat) : (l.drop 1).getD n 0 = l.getD (n + 1) 0 := by
  rw [List.getD_eq_getElem?_getD, List.getD_eq_getElem?_getD, List.getElem?_drop, Nat.add_comm]
theorem ksOf_at : ∀ (ts : List Tl) (l : List Int) (j : Nat) (t : Tl), ts[j]? = some t → (ksOf ts l).getD j none = if t.turn = 0 then none else some (l.getD (placeN ts j) 0)
  | [], _, j, t, h => by simp at h
  | u :: ts, l, 0, t, h => by
    simp only [List.getElem?_cons_zero, Option.some.injEq] at h
    subst h
    unfold ksOf
    have e : placeN (u :: ts) 0 = 0 := rfl
    rw [e]
    split <;> rfl
  | u :: ts, l, j + 1, t, h => by
    simp only [List.getElem?_cons_succ] at h
    rw [placeN_cons]
    unfold ksOf
    by_cases e : u.turn = 0
    · rw [if_pos e, if_pos e, Nat.add_zero]
      exact ksOf_at ts l j t h
    · rw [if_neg e, if_neg e]
      have h1 := ksOf_at ts (l.drop 1) j t h
      rw [getD_drop] at h1
      exact h1
theorem turL_ksOf : ∀ (ts : List Tl) (l : List Int), turnN ts = l.length → turL ts (ksOf ts l) = l
  | [], l, h => by
    have : l = [] := List.eq_nil_of_length_eq_zero h.symm
    rw [this]
    rfl
  | u :: ts, l, h => by
    have e1 : turnN (u :: ts) = turnN ts + if u.turn = 0 then 0 else 1 := by
      unfold turnN
      by_cases e : u.turn = 0 <;> simp [e]
    rw [e1] at h
    unfold ksOf
    by_cases e : u.turn = 0
    · rw [if_pos e] at h
      rw [if_pos e]
      simp only [turL, if_pos e]
      exact turL_ksOf ts l (by omega)
    · rw [if_neg e] at h
      rw [if_neg e]
      simp only [turL, if_neg e]
      match l, h with
      | [], h => exact absurd h (by simp)
      | a :: l, h =>
        have h2 := turL_ksOf ts l (by simpa using h)
        show (some a : Option Int).getD 0 :: turL ts (ksOf ts l) = a :: l
        rw [h2]
        rfl
theorem turL_at : ∀ (ts : List Tl) (ks : List (Option Int)) (j : Nat) (t : Tl), ts[j]? = some t → t.turn ≠ 0 → ks.length = ts.length → (turL ts ks).getD (placeN ts j) 0 = (ks.getD j none).getD 0
  | [], _, j, t, h, _, _ => by simp at h
  | u :: ts, [], j, t, _, _, hl => by simp at hl
  | u :: ts, o :: ks, 0, t, h, hT, _ => by
    simp only [List.getElem?_cons_zero, Option.some.injEq] at h
    subst h
    have e : placeN (u :: ts) 0 = 0 := rfl
    rw [e]
    simp [turL, hT]
  | u :: ts, o :: ks, j + 1, t, h, hT, hl => by
    simp only [List.getElem?_cons_succ] at h
    have ih := turL_at ts ks j t h hT (by simpa using hl)
    rw [placeN_cons]
    by_cases e : u.turn = 0
    · simp only [turL, if_pos e, Nat.add_zero]
      exact ih
    · simp only [turL, if_neg e]
      exact ih
theorem placeN_all (ts : List Tl) : placeN ts ts.length = turnN ts := by
  unfold placeN turnN
  rw [List.take_length]
/-- Whole turns are possible just if some field agrees with the survey that knows them. -/
theorem cert_law {s : Sd} (h : SdOk s) {l : List Int} (hl : turnN s.tools = l.length) (hr : ∀ (j : Nat) (t : Tl), s.tools[j]? = some t → t.turn ≠ 0 → -1000 ≤ readAt s j + t.turn * l.getD (placeN s.tools j) 0 ∧ readAt s j + t.turn * l.getD (placeN s.tools j) 0 ≤ 1000) :
    SdOk (certN s l s.tools.length) ∧ okS (certN s l s.tools.length) (freeL (certN s l s.tools.length)) = decide (l ∈ turnsN s) := by
  have hlen := cert_len s l s.tools.length
  obtain ⟨z, hz⟩ : ∃ z, z = certN s l s.tools.length := ⟨_, rfl⟩
  have htool : ∀ (j : Nat) (t : Tl), s.tools[j]? = some t → z.tools[j]? = some { t with turn := 0 } := fun j t ht => by
    rw [hz, cert_tool s l _ j t ht, if_pos (List.getElem?_eq_some_iff.1 ht).1]
  have hread : ∀ (j : Nat) (t : Tl), s.tools[j]? = some t → readAt z j = if t.turn ≠ 0 then readAt s j + t.turn * l.getD (placeN s.tools j) 0 else readAt s j := fun j t ht => by
    rw [hz, cert_read h l _ j t ht]
    have hj := (List.getElem?_eq_some_iff.1 ht).1
    by_cases hT : t.turn ≠ 0
    · rw [if_pos ⟨hj, hT⟩, if_pos hT]
    · rw [if_neg (fun a => hT a.2), if_neg hT]
  rw [← hz] at hlen ⊢
  obtain ⟨l1, l2, l3, l4, l5⟩ := hlen
  have hback : ∀ (j : Nat) (u : Tl), z.tools[j]? = some u → ∃ t, s.tools[j]? = some t ∧ u = { t with turn := 0 } := fun j u hu => by
    have hj := (List.getElem?_eq_some_iff.1 hu).1
    obtain ⟨t, ht⟩ : ∃ t, s.tools[j]? = some t := ⟨_, List.getElem?_eq_getElem (by omega)⟩
    rw [htool j t ht] at hu
    injection hu with hu
    exact ⟨t, ht, hu.symm⟩
  have hok : SdOk z := by
    refine ⟨by rw [l3]; exact h.spots, by rw [l1]; exact h.few, by rw [l4]; exact h.strain, by rw [l5]; exact h.day, by rw [l2, l1]; exact h.reads, by rw [l3]; exact h.spot, fun u hu => ?_, fun r hr2 => ?_⟩
    · obtain ⟨j, hj⟩ := List.mem_iff_getElem?.1 hu
      obtain ⟨t, ht, rfl⟩ := hback j u hj
      rw [l3, l5]
      have g := h.tool t (List.mem_of_getElem? ht)
      exact ⟨g.spot, g.a, g.b, g.ab, .inl rfl, g.err, g.drift, g.since⟩
    · obtain ⟨j, hj⟩ := List.mem_iff_getElem?.1 hr2
      have hjl := (List.getElem?_eq_some_iff.1 hj).1
      obtain ⟨t, ht⟩ : ∃ t, s.tools[j]? = some t := ⟨_, List.getElem?_eq_getElem (by have := h.reads; omega)⟩
      have e : readAt z j = r := by unfold readAt; rw [List.getD_eq_getElem?_getD, hj]; rfl
      rw [← e, hread j t ht]
      split
      · rename_i hT
        exact hr j t ht hT
      · exact h.rdAt j
  refine ⟨hok, ?_⟩
  have hfree : ∀ j : Nat, (freeL z).getD j none = none := free_none z
  have key : ∀ (ks : List (Option Int)) (f : Nat → Mv), (∀ (j : Nat) (t : Tl), s.tools[j]? = some t → t.turn = 0 → ks.getD j none = none) → (∀ (j : Nat) (t : Tl), s.tools[j]? = some t → t.turn ≠ 0 → ks.getD j none = some (l.getD (placeN s.tools j) 0)) → (Agree z (freeL z) f ↔ Agree s ks f) := fun ks f h0 h1 => by
    rw [agree_parts h.toolIn, agree_parts hok.toolIn]
    have e1 : FieldIn z f ↔ FieldIn s f := by unfold FieldIn; rw [l3, l4]
    rw [e1]
    have kk : ∀ (j : Nat) (t : Tl), s.tools[j]? = some t → agreeN { t with turn := 0 } z.day (readAt z j) (f t.spot.toNat) ((freeL z).getD j none) = agreeN t s.day (readAt s j) (f t.spot.toNat) (ks.getD j none) := fun j t ht => by
      rw [hfree, hread j t ht, l5]
      by_cases hT : t.turn = 0
      · rw [if_neg (fun a => a hT), h0 j t ht hT]
        have e : ({ t with turn := 0 } : Tl) = t := by rw [← hT]
        rw [e]
      · rw [if_pos hT, h1 j t ht hT]
        exact agree_sure hT
    constructor
    · rintro ⟨a, b⟩
      exact ⟨a, fun j t ht => by rw [← kk j t ht]; exact b j _ (htool j t ht)⟩
    · rintro ⟨a, b⟩
      refine ⟨a, fun j u hu => ?_⟩
      obtain ⟨t, ht, rfl⟩ := hback j u hu
      show agreeN { t with turn := 0 } z.day (readAt z j) (f t.spot.toNat) ((freeL z).getD j none) = true
      rw [kk j t ht]
      exact b j t ht
  rw [Bool.eq_iff_iff, decide_eq_true_eq, ok_iff (by rw [l3]; have := h.spots; omega), mem_turnsN h]
  constructor
  · rintro ⟨f, hf⟩
    refine ⟨ksOf s.tools l, f, ksOf_len _ _, fun j t ht hT => by rw [ksOf_at _ _ _ _ ht, if_pos hT], fun j t ht hT => ⟨_, by rw [ksOf_at _ _ _ _ ht, if_neg hT]⟩, ?_, turL_ksOf _ _ hl⟩
    exact (key _ f (fun j t ht hT => by rw [ksOf_at _ _ _ _ ht, if_pos hT]) (fun j t ht hT => by rw [ksOf_at _ _ _ _ ht, if_neg hT])).1 hf
  · rintro ⟨ks, f, h1, h2, h3, h4, h5⟩
    refine ⟨f, (key ks f h2 (fun j t ht hT => ?_)).2 h4⟩
    obtain ⟨q, hq⟩ := h3 j t ht hT
    have h6 := turL_at s.tools ks j t ht hT h1
    rw [h5, hq] at h6
    rw [hq, h6]
    rfl

end Go.Proofs.Ytpmafnifgegfbaa
