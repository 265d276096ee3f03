/- Plain law: a read that is one Turn greater. -/
import Derived.Test.YtpmafnifgegfbaaP
namespace Go.Proofs.Ytpmafnifgegfbaa


/-- A survey in which a read is so much greater. -/
def upS (s : Sd) (k : Nat) (by_ : Int) : Sd := { s with reads := s.reads.set k (readAt s k + by_) }
theorem upS_at {s : Sd} {k : Nat} {d : Int} (hk : k < s.reads.length) (j : Nat) : readAt (upS s k d) j = if j = k then readAt s k + d else readAt s j := by
  unfold readAt upS
  simp only [List.getD_eq_getElem?_getD, List.getElem?_set]
  by_cases e : k = j
  · subst e
    rw [if_pos rfl, if_pos hk, if_pos rfl]
    rfl
  · rw [if_neg e, if_neg (Ne.symm e)]
theorem upS_ok {s : Sd} (h : SdOk s) {k : Nat} {t : Tl} (ht : s.tools[k]? = some t) (hr : readAt s k + t.turn ≤ 1000) : SdOk (upS s k t.turn) := by
  have hk := (List.getElem?_eq_some_iff.1 ht).1
  have hT := (h.tool t (List.mem_of_getElem? ht)).turn
  have hrd := h.rdAt k
  refine ⟨h.spots, h.few, h.strain, h.day, by show (s.reads.set k _).length = _; rw [List.length_set]; exact h.reads, h.spot, h.tool, fun r hr2 => ?_⟩
  rcases List.mem_or_eq_of_mem_set hr2 with h1 | h1
  · exact h.read r h1
  · rw [h1]
    omega
/-- The turns that go with it. -/
def downK (k : Nat) (ks : List (Option Int)) : List (Option Int) := ks.set k ((ks.getD k none).map fun q => q - 1)
theorem downK_at {k : Nat} {ks : List (Option Int)} (hk : k < ks.length) (j : Nat) : (downK k ks).getD j none = if j = k then (ks.getD k none).map fun q => q - 1 else ks.getD j none := by
  unfold downK
  simp only [List.getD_eq_getElem?_getD, List.getElem?_set]
  by_cases e : k = j
  · subst e
    rw [if_pos rfl, if_pos hk, if_pos rfl]
    rfl
  · rw [if_neg e, if_neg (Ne.symm e)]
theorem up_agree {s : Sd} (h : SdOk s) {k : Nat} {t : Tl} (ht : s.tools[k]? = some t) (hT : 0 < t.turn) {ks : List (Option Int)} (hl : ks.length = s.tools.length) {f : Nat → Mv} : Agree (upS s k t.turn) (downK k ks) f ↔ Agree s ks f := by
  have hk := (List.getElem?_eq_some_iff.1 ht).1
  have hkr : k < s.reads.length := by rw [h.reads]; exact hk
  have hin : ToolIn (upS s k t.turn) := h.toolIn
  rw [agree_parts h.toolIn, agree_parts hin]
  have e1 : FieldIn (upS s k t.turn) f ↔ FieldIn s f := Iff.rfl
  rw [e1]
  have key : ∀ (j : Nat) (t' : Tl), s.tools[j]? = some t' → agreeN t' s.day (readAt (upS s k t.turn) j) (f t'.spot.toNat) ((downK k ks).getD j none) = agreeN t' s.day (readAt s j) (f t'.spot.toNat) (ks.getD j none) := fun j t' hj => by
    rw [upS_at hkr, downK_at (by rw [hl]; exact hk)]
    by_cases e : j = k
    · subst e
      rw [hj] at ht
      injection ht with ht
      subst ht
      rw [if_pos rfl, if_pos rfl]
      exact agree_whole hT _
    · rw [if_neg e, if_neg e]
  constructor
  · rintro ⟨h1, h2⟩
    exact ⟨h1, fun j t' hj => by rw [← key j t' hj]; exact h2 j t' hj⟩
  · rintro ⟨h1, h2⟩
    exact ⟨h1, fun j t' hj => by
      have h3 := key j t' hj
      have h4 := h2 j t' hj
      rw [h4] at h3
      exact h3⟩
theorem down_free {s : Sd} {k : Nat} {d : Int} : downK k (freeL s) = freeL (upS s k d) := by
  have h : (freeL s).getD k none = none := free_none s k
  unfold downK
  rw [h]
  show List.set (List.replicate s.tools.length none) k none = List.replicate s.tools.length none
  refine List.ext_getElem? fun j => ?_
  rw [List.getElem?_set, List.getElem?_replicate]
  split
  · rename_i e
    subst e
    split
    · rename_i h1
      rw [List.length_replicate] at h1
      rw [if_pos h1]
    · rename_i h1
      rw [List.length_replicate] at h1
      rw [if_neg h1]
  · rfl
theorem free_ln (s : Sd) : (freeL s).length = s.tools.length := by unfold freeL; rw [List.length_replicate]
theorem up_free {s : Sd} (h : SdOk s) {k : Nat} {t : Tl} (ht : s.tools[k]? = some t) (hT : 0 < t.turn) {f : Nat → Mv} : Agree (upS s k t.turn) (freeL (upS s k t.turn)) f ↔ Agree s (freeL s) f := by
  rw [← down_free (s := s) (k := k) (d := t.turn)]
  exact up_agree h ht hT (free_ln s)
theorem same_ok {s s' : Sd} {ks ks' : List (Option Int)} (h0 : 0 < s.spots.length) (hl : s'.spots.length = s.spots.length) (ha : ∀ f, Agree s' ks' f ↔ Agree s ks f) : okS s' ks' = okS s ks := by
  rw [Bool.eq_iff_iff, ok_iff h0, ok_iff (by omega)]
  exact ⟨fun ⟨f, hf⟩ => ⟨f, (ha f).1 hf⟩, fun ⟨f, hf⟩ => ⟨f, (ha f).2 hf⟩⟩
/-- What is known is told by the fields that agree. -/
theorem same_learn {s s' : Sd} (hl : s'.spots.length = s.spots.length) (ha : ∀ f, Agree s' (freeL s') f ↔ Agree s (freeL s) f) (hok : ∃ f, Agree s (freeL s) f) {i : Nat} (hi : i < s.spots.length) : learnN s' i = learnN s i := by
  obtain ⟨g, hg⟩ := hok
  have hm := (mem_alive (ks := freeL s) hi).2 ⟨g, hg, rfl⟩
  have hm' := (mem_alive (s := s') (ks := freeL s') (i := i) (by omega)).2 ⟨g, (ha g).2 hg, rfl⟩
  have hmm : ∀ m, m ∈ aliveS s' (freeL s') i ↔ m ∈ aliveS s (freeL s) i := fun m => by
    rw [mem_alive hi, mem_alive (show i < s'.spots.length by omega)]
    exact ⟨fun ⟨f, h1, h2⟩ => ⟨f, (ha f).1 h1, h2⟩, fun ⟨f, h1, h2⟩ => ⟨f, (ha f).2 h1, h2⟩⟩
  have key : ∀ p : Mv → Int, endsN ((aliveS s' (freeL s') i).map p) = endsN ((aliveS s (freeL s) i).map p) := fun p =>
    EndsOf.uniq (ends_of (List.ne_nil_of_mem (List.mem_map.2 ⟨_, hm', rfl⟩))) (ends_of (List.ne_nil_of_mem (List.mem_map.2 ⟨_, hm, rfl⟩))) fun x => by
      rw [List.mem_map, List.mem_map]
      exact ⟨fun ⟨m, h1, h2⟩ => ⟨m, (hmm m).1 h1, h2⟩, fun ⟨m, h1, h2⟩ => ⟨m, (hmm m).2 h1, h2⟩⟩
  unfold learnN
  rw [key, key]
/-- The number at a place is one less. -/
def decL : Nat → List Int → List Int
  | 0, a :: l => (a - 1) :: l
  | p + 1, a :: l => a :: decL p l
  | _, [] => []
theorem decL_len : ∀ (p : Nat) (l : List Int), (decL p l).length = l.length
  | 0, [] => rfl
  | 0, _ :: _ => rfl
  | _ + 1, [] => rfl
  | p + 1, _ :: l => by simp only [decL, List.length_cons, decL_len p l]
theorem decL_at : ∀ (p : Nat) (l : List Int) (n : Nat) (a : Int), l[n]? = some a → (decL p l)[n]? = some (a - if n = p then 1 else 0)
  | 0, b :: l, 0, a, h => by
    simp only [List.getElem?_cons_zero, Option.some.injEq] at h
    simp [decL, h]
  | 0, b :: l, n + 1, a, h => by
    simp only [List.getElem?_cons_succ] at h
    simp [decL, h]
  | p + 1, b :: l, 0, a, h => by
    simp only [List.getElem?_cons_zero, Option.some.injEq] at h
    simp [decL, h]
  | p + 1, b :: l, n + 1, a, h => by
    simp only [List.getElem?_cons_succ] at h
    have h1 := decL_at p l n a h
    simp only [decL, List.getElem?_cons_succ, h1]
    by_cases e : n = p
    · simp [e]
    · rw [if_neg e, if_neg (by omega)]
  | p, [], n, a, h => by simp at h
theorem decL_less : ∀ (p : Nat) (l m : List Int), lessL l m → lessL (decL p l) (decL p m)
  | 0, a :: l, b :: m, h => by
    rcases h with h | ⟨h1, h2⟩
    · exact .inl (by omega)
    · exact .inr ⟨by omega, h2⟩
  | p + 1, a :: l, b :: m, h => by
    rcases h with h | ⟨h1, h2⟩
    · exact .inl h
    · exact .inr ⟨h1, decL_less p l m h2⟩
  | 0, [], _, h => h.elim
  | 0, _ :: _, [], h => h.elim
  | _ + 1, [], _, h => h.elim
  | _ + 1, _ :: _, [], h => h.elim
/-- How many tools with a Turn come ahead of a tool. -/
def placeN (ts : List Tl) (k : Nat) : Nat := ((ts.take k).filter fun t => decide (t.turn ≠ 0)).length
theorem placeN_succ {ts : List Tl} {k : Nat} {t : Tl} (h : ts[k]? = some t) : placeN ts (k + 1) = placeN ts k + if t.turn = 0 then 0 else 1 := by
  unfold placeN
  rw [List.take_add_one, h]
  by_cases e : t.turn = 0 <;> simp [e]
theorem turL_down : ∀ (ts : List Tl) (ks : List (Option Int)) (k : Nat) (t : Tl) (a : Int), ts[k]? = some t → t.turn ≠ 0 → ks.length = ts.length → ks.getD k none = some a → turL ts (downK k ks) = decL (placeN ts k) (turL ts ks) ∧ placeN ts k < (turL ts ks).length
  | [], _, k, t, a, h, _, _, _ => by simp at h
  | u :: ts, [], _, _, _, _, _, hl, _ => by simp at hl
  | u :: ts, o :: ks, 0, t, a, h, hT, hl, ha => by
    simp only [List.getElem?_cons_zero, Option.some.injEq] at h
    subst h
    have ho : o = some a := by simpa using ha
    subst ho
    have e1 : placeN (u :: ts) 0 = 0 := rfl
    rw [e1]
    simp [downK, turL, hT, decL]
  | u :: ts, o :: ks, k + 1, t, a, h, hT, hl, ha => by
    simp only [List.getElem?_cons_succ] at h
    have ha' : ks.getD k none = some a := by simpa using ha
    obtain ⟨h1, h2⟩ := turL_down ts ks k t a h hT (by simpa using hl) ha'
    have e1 : downK (k + 1) (o :: ks) = o :: downK k ks := by unfold downK; simp
    have e2 : placeN (u :: ts) (k + 1) = placeN ts k + if u.turn = 0 then 0 else 1 := by
      unfold placeN
      rw [List.take_succ_cons]
      by_cases e : u.turn = 0 <;> simp [e]
    rw [e1, e2]
    by_cases e : u.turn = 0
    · simp only [turL, if_pos e, Nat.add_zero]
      exact ⟨h1, h2⟩
    · simp only [turL, if_neg e, decL, List.length_cons]
      exact ⟨by rw [h1], by omega⟩
/-- Turns of a tool that agrees are few. -/
theorem agree_few {s : Sd} (h : SdOk s) {ks : List (Option Int)} {f : Nat → Mv} (ha : Agree s ks f) {j : Nat} {t : Tl} (ht : s.tools[j]? = some t) (hT : t.turn ≠ 0) {q : Int} (hq : ks.getD j none = some q) : -720 ≤ q ∧ q ≤ 720 := by
  have hm := List.mem_of_getElem? ht
  have htl := h.tool t hm
  have hp := (agree_parts h.toolIn).1 ha
  have hag := hp.2 j t ht
  rw [hq] at hag
  unfold agreeN at hag
  rw [if_neg hT] at hag
  simp only [decide_eq_true_eq] at hag
  have h3 := amt_le.1 hag
  have ho := off_bd htl h.day.1 h.day.2
  have hr := h.rdAt j
  have hb := FieldIn.bd h hp.1 (i := t.spot.toNat) (by have := htl.spot; omega)
  have hs := sight_bd htl hb.1 hb.2
  have hT2 : 2 ≤ t.turn := by have := htl.turn; omega
  obtain ⟨x, hx⟩ : ∃ x, x = t.turn * q := ⟨_, rfl⟩
  rw [← hx] at h3
  have hxb : -1410 ≤ x ∧ x ≤ 1410 := by omega
  constructor
  · rcases Int.le_total (-720) q with h4 | h4
    · exact h4
    · exfalso
      have h5 : t.turn * q ≤ 2 * q := by
        exact Int.mul_le_mul_of_nonpos_right hT2 (by omega)
      have : q = -720 ∨ q < -720 := by omega
      rcases this with h6 | h6 <;> omega
  · rcases Int.le_total q 720 with h4 | h4
    · exact h4
    · exfalso
      have h5 : 2 * q ≤ t.turn * q := Int.mul_le_mul_of_nonneg_right hT2 (by omega)
      omega
theorem mem_turnsN {s : Sd} (h : SdOk s) {l : List Int} : l ∈ turnsN s ↔ ∃ ks f, ks.length = s.tools.length ∧ (∀ (j : Nat) (t : Tl), s.tools[j]? = some t → t.turn = 0 → ks.getD j none = none) ∧ (∀ (j : Nat) (t : Tl), s.tools[j]? = some t → t.turn ≠ 0 → ∃ q, ks.getD j none = some q) ∧ Agree s ks f ∧ turL s.tools ks = l := by
  unfold turnsN
  rw [List.mem_map]
  constructor
  · rintro ⟨ks, hk, rfl⟩
    obtain ⟨h1, h2, h3⟩ := (mem_out0 h).1 hk
    obtain ⟨f, hf⟩ := (ok_iff (by have := h.spots; omega)).1 h3
    refine ⟨ks, f, h1, fun j t ht hT => ?_, fun j t ht hT => ?_, hf, rfl⟩
    · have h4 := h2 j t ht
      unfold turnOk at h4
      rwa [if_pos hT] at h4
    · have h4 := h2 j t ht
      unfold turnOk at h4
      rw [if_neg hT] at h4
      obtain ⟨q, h5, _⟩ := h4
      exact ⟨q, h5⟩
  · rintro ⟨ks, f, h1, h2, h3, h4, rfl⟩
    refine ⟨ks, (mem_out0 h).2 ⟨h1, fun j t ht => ?_, (ok_iff (by have := h.spots; omega)).2 ⟨f, h4⟩⟩, rfl⟩
    unfold turnOk
    by_cases hT : t.turn = 0
    · rw [if_pos hT]
      exact h2 j t ht hT
    · rw [if_neg hT]
      obtain ⟨q, hq⟩ := h3 j t ht hT
      have := agree_few h h4 ht hT hq
      exact ⟨q, hq, by omega, by omega⟩
theorem turnsN_len {s : Sd} (h : SdOk s) {l : List Int} (hl : l ∈ turnsN s) : l.length = turnN s.tools := by
  obtain ⟨ks, f, h1, _, _, _, h5⟩ := (mem_turnsN h).1 hl
  rw [← h5]
  exact turL_len _ _ h1
theorem down_len (k : Nat) (ks : List (Option Int)) : (downK k ks).length = ks.length := by unfold downK; rw [List.length_set]
/-- One turn more in a read: one less in each list. -/
theorem up_turns {s : Sd} (h : SdOk s) {k : Nat} {t : Tl} (ht : s.tools[k]? = some t) (hT : 0 < t.turn) (hr : readAt s k + t.turn ≤ 1000) : turnsN (upS s k t.turn) = (turnsN s).map (decL (placeN s.tools k)) := by
  have h' := upS_ok h ht hr
  have hk := (List.getElem?_eq_some_iff.1 ht).1
  have hsrt : ((turnsN s).map (decL (placeN s.tools k))).Pairwise lessL := by
    rw [List.pairwise_map]
    exact (turnsN_sorted h).imp fun h1 => decL_less _ _ _ h1
  refine pair_ext less_irrefl less_trans (turnsN_sorted h') hsrt fun l => ?_
  rw [List.mem_map]
  constructor
  · intro hl
    obtain ⟨ks', f, h1, h2, h3, h4, h5⟩ := (mem_turnsN h').1 hl
    have h1 : ks'.length = s.tools.length := h1
    obtain ⟨q, hq⟩ := h3 k t ht (by omega)
    obtain ⟨ks, hks⟩ : ∃ ks, ks = ks'.set k (some (q + 1)) := ⟨_, rfl⟩
    have hlk : ks.length = s.tools.length := by rw [hks, List.length_set]; exact h1
    have hat : ∀ j, ks.getD j none = if j = k then some (q + 1) else ks'.getD j none := fun j => by
      rw [hks]
      simp only [List.getD_eq_getElem?_getD, List.getElem?_set]
      by_cases e : k = j
      · subst e
        rw [if_pos rfl, if_pos (by omega), if_pos rfl]
        rfl
      · rw [if_neg e, if_neg (Ne.symm e)]
    have hback : downK k ks = ks' := by
      unfold downK
      rw [hat k, if_pos rfl, hks, List.set_set]
      refine List.ext_getElem? fun j => ?_
      rw [List.getElem?_set]
      by_cases e : k = j
      · subst e
        rw [if_pos rfl, if_pos (by omega)]
        have hlt : k < ks'.length := by rw [h1]; exact hk
        rw [List.getD_eq_getElem?_getD, List.getElem?_eq_getElem hlt] at hq
        rw [List.getElem?_eq_getElem hlt]
        have hq2 : ks'[k] = some q := hq
        rw [hq2]
        simp
      · rw [if_neg e]
    refine ⟨turL s.tools ks, (mem_turnsN h).2 ⟨ks, f, hlk, fun j u hu hz => ?_, fun j u hu hz => ?_, ?_, rfl⟩, ?_⟩
    · rw [hat]
      by_cases e : j = k
      · subst e
        rw [hu] at ht
        injection ht with ht
        subst ht
        omega
      · rw [if_neg e]
        exact h2 j u hu hz
    · rw [hat]
      by_cases e : j = k
      · rw [if_pos e]
        exact ⟨_, rfl⟩
      · rw [if_neg e]
        exact h3 j u hu hz
    · rw [← up_agree h ht hT hlk, hback]
      exact h4
    · rw [← (turL_down s.tools ks k t (q + 1) ht (by omega) hlk (by rw [hat, if_pos rfl])).1, hback]
      exact h5
  · rintro ⟨m, hm, rfl⟩
    obtain ⟨ks, f, h1, h2, h3, h4, rfl⟩ := (mem_turnsN h).1 hm
    obtain ⟨q, hq⟩ := h3 k t ht (by omega)
    refine (mem_turnsN h').2 ⟨downK k ks, f, by rw [down_len]; exact h1, fun j u hu hz => ?_, fun j u hu hz => ?_, (up_agree h ht hT h1).2 h4, (turL_down s.tools ks k t q ht (by omega) h1 hq).1⟩
    · rw [downK_at (by rw [h1]; exact hk)]
      by_cases e : j = k
      · subst e
        rw [show (upS s j t.turn).tools = s.tools from rfl, ht] at hu
        injection hu with hu
        subst hu
        omega
      · rw [if_neg e]
        exact h2 j u hu hz
    · rw [downK_at (by rw [h1]; exact hk)]
      by_cases e : j = k
      · rw [if_pos e, hq]
        exact ⟨_, rfl⟩
      · rw [if_neg e]
        exact h3 j u hu hz
theorem up_place {s : Sd} (h : SdOk s) {k : Nat} {t : Tl} (ht : s.tools[k]? = some t) (hT : 0 < t.turn) {l : List Int} (hl : l ∈ turnsN s) : placeN s.tools k < l.length := by
  obtain ⟨ks, f, h1, _, h3, _, rfl⟩ := (mem_turnsN h).1 hl
  obtain ⟨q, hq⟩ := h3 k t ht (by omega)
  exact (turL_down s.tools ks k t q ht (by omega) h1 hq).2

end Go.Proofs.Ytpmafnifgegfbaa
