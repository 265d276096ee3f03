/- Plain: a field and its reads, by words. -/
import Derived.Test.YtpmafnifgegfbaaPE
namespace Go.Proofs.Ytpmafnifgegfbaa


/-- A number of a range, by words. -/
def pickN (low high : Int) (ws : List Hlf) (i : Nat) : Int := match ws[i % ws.length]? with
  | none => low
  | some w => if w.n % 4 = 0 then low else if w.n % 4 = 1 then high else low + w.n % (high - low + 1)
theorem pick_in {low high : Int} (h : low ≤ high) (ws : List Hlf) (i : Nat) : low ≤ pickN low high ws i ∧ pickN low high ws i ≤ high := by
  unfold pickN
  cases ws[i % ws.length]? with
  | none => exact ⟨Int.le_refl _, h⟩
  | some w =>
    simp only
    split
    · exact ⟨Int.le_refl _, h⟩
    · split
      · exact ⟨h, Int.le_refl _⟩
      · have h1 := Int.emod_nonneg w.n (show high - low + 1 ≠ 0 by omega)
        have h2 := Int.emod_lt_of_pos w.n (show 0 < high - low + 1 by omega)
        omega
/-- The ranges of a spot behind a movement. -/
def narrowN (q : Int) (p : Sp) (a : Mv) : Sp := ⟨⟨mxI p.x.lo (a.1 - q), mnI p.x.hi (a.1 + q)⟩, ⟨mxI p.y.lo (a.2 - q), mnI p.y.hi (a.2 + q)⟩⟩
def rangesN (s : Sd) (p : Sp) (out : List Mv) (i : Nat) : Sp := if i = 0 then p else narrowN s.strain p (fnL out (i - 1))
def stepF (s : Sd) (ws : List Hlf) (i : Nat) (out : List Mv) : Option (List Mv) := match s.spots[i]? with
  | none => none
  | some p => if (rangesN s p out i).x.hi < (rangesN s p out i).x.lo ∨ (rangesN s p out i).y.hi < (rangesN s p out i).y.lo then none else some (out ++ [(pickN (rangesN s p out i).x.lo (rangesN s p out i).x.hi ws (2 * i), pickN (rangesN s p out i).y.lo (rangesN s p out i).y.hi ws (2 * i + 1))])
/-- The field, so far. -/
def truthK (s : Sd) (ws : List Hlf) : Nat → Option (List Mv)
  | 0 => some []
  | i + 1 => (truthK s ws i).bind (stepF s ws i)
theorem truthK_none (s : Sd) (ws : List Hlf) : ∀ (k i : Nat), truthK s ws i = none → truthK s ws (i + k) = none
  | 0, _, h => h
  | k + 1, i, h => by
    show (truthK s ws (i + k)).bind _ = none
    rw [truthK_none s ws k i h]
    rfl
theorem mn_c (a b : Int) : mnI a b ≤ a ∧ mnI a b ≤ b := by unfold mnI; split <;> omega
theorem mx_c (a b : Int) : a ≤ mxI a b ∧ b ≤ mxI a b := by unfold mxI; split <;> omega
theorem truth_inv {s : Sd} (ws : List Hlf) : ∀ (i : Nat) (f : List Mv), i ≤ s.spots.length → truthK s ws i = some f → f.length = i ∧ (∀ (j : Nat) (p : Sp), j < i → s.spots[j]? = some p → fnL f j ∈ movesL p) ∧ ∀ j, j + 1 < i → nearB s.strain (fnL f j) (fnL f (j + 1)) = true
  | 0, f, _, h => by
    have : f = [] := by injection h with h; exact h.symm
    subst this
    exact ⟨rfl, fun j p hj => by omega, fun j hj => by omega⟩
  | i + 1, f, hi, h => by
    have h' : (truthK s ws i).bind (stepF s ws i) = some f := h
    cases ho : truthK s ws i with
    | none => rw [ho] at h'; cases h'
    | some out =>
      rw [ho] at h'
      have h2 : stepF s ws i out = some f := h'
      obtain ⟨l1, l2, l3⟩ := truth_inv ws i out (by omega) ho
      unfold stepF at h2
      obtain ⟨p, hp⟩ : ∃ p, s.spots[i]? = some p := ⟨_, List.getElem?_eq_getElem (by omega)⟩
      rw [hp] at h2
      simp only at h2
      split at h2
      · cases h2
      · rename_i hc
        injection h2 with h2
        obtain ⟨q, hq⟩ : ∃ q, q = rangesN s p out i := ⟨_, rfl⟩
        rw [← hq] at h2 hc
        obtain ⟨m, hm⟩ : ∃ m : Mv, m = (pickN q.x.lo q.x.hi ws (2 * i), pickN q.y.lo q.y.hi ws (2 * i + 1)) := ⟨_, rfl⟩
        rw [← hm] at h2
        have b1 := pick_in (low := q.x.lo) (high := q.x.hi) (by omega) ws (2 * i)
        have b2 := pick_in (low := q.y.lo) (high := q.y.hi) (by omega) ws (2 * i + 1)
        have e1 : m.1 = pickN q.x.lo q.x.hi ws (2 * i) := by rw [hm]
        have e2 : m.2 = pickN q.y.lo q.y.hi ws (2 * i + 1) := by rw [hm]
        rw [← e1] at b1
        rw [← e2] at b2
        have hat : ∀ j : Nat, fnL f j = if j = i then m else fnL out j := fun j => by
          unfold fnL
          rw [← h2, List.getD_eq_getElem?_getD, List.getD_eq_getElem?_getD]
          by_cases e : j = i
          · subst e
            rw [if_pos rfl, List.getElem?_append_right (by omega), l1, Nat.sub_self]
            rfl
          · rw [if_neg e]
            by_cases e3 : j < i
            · rw [List.getElem?_append_left (by omega)]
            · rw [List.getElem?_append_right (by omega), List.getElem?_eq_none (by simp; omega), List.getElem?_eq_none (by omega)]
        have hin : m ∈ movesL p ∧ (i = 0 ∨ nearB s.strain (fnL out (i - 1)) m = true) := by
          unfold rangesN at hq
          by_cases h0 : i = 0
          · rw [if_pos h0] at hq
            subst hq
            exact ⟨mem_moves.2 ⟨b1, b2⟩, .inl h0⟩
          · rw [if_neg h0] at hq
            unfold narrowN at hq
            have x1 := mx_c p.x.lo ((fnL out (i - 1)).1 - s.strain)
            have x2 := mn_c p.x.hi ((fnL out (i - 1)).1 + s.strain)
            have x3 := mx_c p.y.lo ((fnL out (i - 1)).2 - s.strain)
            have x4 := mn_c p.y.hi ((fnL out (i - 1)).2 + s.strain)
            rw [hq] at b1 b2
            dsimp only at b1 b2
            refine ⟨mem_moves.2 ⟨by omega, by omega⟩, .inr ?_⟩
            unfold nearB
            rw [Bool.and_eq_true, decide_eq_true_eq, decide_eq_true_eq, amt_le, amt_le]
            omega
        refine ⟨by rw [← h2, List.length_append, l1]; rfl, fun j p' hj hp' => ?_, fun j hj => ?_⟩
        · rw [hat]
          by_cases e : j = i
          · rw [if_pos e]
            subst e
            rw [hp] at hp'
            injection hp' with hp'
            rw [← hp']
            exact hin.1
          · rw [if_neg e]
            exact l2 j p' (by omega) hp'
        · rw [hat, hat, if_neg (show j ≠ i by omega)]
          by_cases e : j + 1 = i
          · rw [if_pos e]
            have h5 := hin.2.resolve_left (by omega)
            rw [show i - 1 = j by omega] at h5
            exact h5
          · rw [if_neg e]
            exact l3 j (by omega)
theorem truth_field {s : Sd} {ws : List Hlf} {f : List Mv} (h : truthK s ws s.spots.length = some f) : f.length = s.spots.length ∧ FieldIn s (fnL f) := by
  obtain ⟨h1, h2, h3⟩ := truth_inv ws _ f (Nat.le_refl _) h
  exact ⟨h1, fun i p hp => h2 i p (List.getElem?_eq_some_iff.1 hp).1 hp, h3⟩
/-- A read by words. -/
def turnW (t : Tl) (ws : List Hlf) (j : Nat) : Int := if t.turn = 0 then 0 else pickN (-3) 3 ws (21 + 2 * j)
def readW (s : Sd) (f : List Mv) (ws : List Hlf) (j : Nat) (t : Tl) : Int := sightN t (fnL f t.spot.toNat) + pickN (-offN t s.day) (offN t s.day) ws (20 + 2 * j) - turnW t ws j * t.turn
def stepR (s : Sd) (f : List Mv) (ws : List Hlf) (j : Nat) (o : List Int × List Int) : Option (List Int × List Int) := match s.tools[j]? with
  | none => none
  | some t => if readW s f ws j t < -1000 ∨ 1000 < readW s f ws j t then none else some (o.1 ++ [readW s f ws j t], if t.turn = 0 then o.2 else o.2 ++ [turnW t ws j])
/-- The reads, and the whole turns, so far. -/
def seenK (s : Sd) (f : List Mv) (ws : List Hlf) : Nat → Option (List Int × List Int)
  | 0 => some ([], [])
  | j + 1 => (seenK s f ws j).bind (stepR s f ws j)
theorem seenK_none (s : Sd) (f : List Mv) (ws : List Hlf) : ∀ (k i : Nat), seenK s f ws i = none → seenK s f ws (i + k) = none
  | 0, _, h => h
  | k + 1, i, h => by
    show (seenK s f ws (i + k)).bind _ = none
    rw [seenK_none s f ws k i h]
    rfl
def ksW (s : Sd) (ws : List Hlf) (n : Nat) : List (Option Int) := (List.range n).map fun j => match s.tools[j]? with
  | some t => if t.turn = 0 then none else some (turnW t ws j)
  | none => none
theorem ksW_len (s : Sd) (ws : List Hlf) (n : Nat) : (ksW s ws n).length = n := by unfold ksW; rw [List.length_map, List.length_range]
theorem ksW_succ (s : Sd) (ws : List Hlf) {n : Nat} {t : Tl} (h : s.tools[n]? = some t) : ksW s ws (n + 1) = ksW s ws n ++ [if t.turn = 0 then none else some (turnW t ws n)] := by
  unfold ksW
  rw [List.range_succ, List.map_append, List.map_singleton, h]
theorem seen_inv {s : Sd} {f : List Mv} (ws : List Hlf) : ∀ (i : Nat) (rd l : List Int), i ≤ s.tools.length → seenK s f ws i = some (rd, l) → rd.length = i ∧ (∀ (j : Nat) (t : Tl), j < i → s.tools[j]? = some t → rd[j]? = some (readW s f ws j t) ∧ -1000 ≤ readW s f ws j t ∧ readW s f ws j t ≤ 1000) ∧ turL (s.tools.take i) (ksW s ws i) = l
  | 0, rd, l, _, h => by
    have h1 : (([], []) : List Int × List Int) = (rd, l) := by injection h with h
    injection h1 with h1 h2
    subst h1
    subst h2
    exact ⟨rfl, fun j t hj => by omega, rfl⟩
  | i + 1, rd, l, hi, h => by
    have h' : (seenK s f ws i).bind (stepR s f ws i) = some (rd, l) := h
    cases ho : seenK s f ws i with
    | none => rw [ho] at h'; cases h'
    | some o =>
      rw [ho] at h'
      have h2 : stepR s f ws i o = some (rd, l) := h'
      obtain ⟨o1, o2⟩ := o
      obtain ⟨l1, l2, l3⟩ := seen_inv ws i o1 o2 (by omega) ho
      unfold stepR at h2
      obtain ⟨t, ht⟩ : ∃ t, s.tools[i]? = some t := ⟨_, List.getElem?_eq_getElem (by omega)⟩
      rw [ht] at h2
      simp only at h2
      split at h2
      · cases h2
      · rename_i hc
        injection h2 with h2
        injection h2 with h2 h3
        refine ⟨by rw [← h2, List.length_append, l1]; rfl, fun j u hj hu => ?_, ?_⟩
        · by_cases e : j = i
          · subst e
            rw [ht] at hu
            injection hu with hu
            subst hu
            refine ⟨?_, by omega, by omega⟩
            rw [← h2, List.getElem?_append_right (by omega), l1, Nat.sub_self]
            rfl
          · obtain ⟨g1, g2⟩ := l2 j u (by omega) hu
            refine ⟨?_, g2⟩
            rw [← h2, List.getElem?_append_left (by omega)]
            exact g1
        · rw [ksW_succ s ws ht, List.take_add_one, ht, turL_append _ _ _ _ (by rw [ksW_len, List.length_take]; omega), l3, ← h3]
          by_cases hT : t.turn = 0
          · simp [turL, hT]
          · simp [turL, hT]
theorem ksW_at {s : Sd} {ws : List Hlf} {n j : Nat} {t : Tl} (hj : j < n) (h : s.tools[j]? = some t) : (ksW s ws n).getD j none = if t.turn = 0 then none else some (turnW t ws j) := by
  unfold ksW
  rw [List.getD_eq_getElem?_getD, List.getElem?_map, List.getElem?_range hj]
  simp [h]
theorem seen_made {s : Sd} (h : SdOk s) {f : List Mv} {ws : List Hlf} {rd l : List Int} (hs : seenK s f ws s.tools.length = some (rd, l)) :
    rd.length = s.tools.length ∧ turL s.tools (ksW s ws s.tools.length) = l ∧ ∀ (j : Nat) (t : Tl) (r : Int), s.tools[j]? = some t → rd[j]? = some r → Made s f (ksW s ws s.tools.length) j t r := by
  obtain ⟨h1, h2, h3⟩ := seen_inv ws _ rd l (Nat.le_refl _) hs
  rw [List.take_length] at h3
  refine ⟨h1, h3, fun j t r ht hr => ?_⟩
  have hj := (List.getElem?_eq_some_iff.1 ht).1
  obtain ⟨g1, g2⟩ := h2 j t hj ht
  rw [g1] at hr
  injection hr with hr
  subst hr
  have hto := h.tool t (List.mem_of_getElem? ht)
  have ho := off_bd hto h.day.1 h.day.2
  refine ⟨g2, pickN (-offN t s.day) (offN t s.day) ws (20 + 2 * j), pick_in (by omega) ws _, ?_⟩
  rw [ksW_at hj ht]
  unfold readW turnW
  by_cases hT : t.turn = 0
  · refine .inl ⟨hT, by rw [if_pos hT], ?_⟩
    rw [if_pos hT, Int.zero_mul, Int.sub_zero]
  · refine .inr ⟨hT, pickN (-3) 3 ws (21 + 2 * j), by rw [if_neg hT, if_neg hT], ?_⟩
    rw [if_neg hT]

end Go.Proofs.Ytpmafnifgegfbaa
