/- A bed of a slope changed: in memory, and what it does to the least factor and to spans. -/
import Derived.Test.YtkenokpobbichaaAW2
import Derived.Test.YtkenokpobbichaaBL
namespace Go.Proofs.Ytkenokpobbichaa
open Go.RowKit Go.Shelf Go.Deep

/-- A bed that is stronger, or known better. -/
def chBd (j : Nat) (n : Int) (b : Bd) : Bd := match j with
  | 0 => { b with fr := ⟨mnI b.fr.hi (b.fr.lo + n), b.fr.hi⟩ }
  | 1 => { b with co := ⟨mnI b.co.hi (b.co.lo + n), b.co.hi⟩ }
  | 2 => { b with drive := mxI (-100000) (b.drive - n) }
  | 3 => { b with wa := ⟨b.wa.lo, mxI b.wa.lo (b.wa.hi - n)⟩ }
  | _ => { b with fr := ⟨b.fr.lo, mxI b.fr.lo (b.fr.hi - n)⟩ }
theorem ch_cases (j : Nat) (h : j < 5) : j = 0 ∨ j = 1 ∨ j = 2 ∨ j = 3 ∨ j = 4 := by omega
theorem mn_is (a b : Int) : mnI a b = a ∧ a ≤ b ∨ mnI a b = b ∧ b ≤ a := by unfold mnI; split <;> omega
theorem mx_is (a b : Int) : mxI a b = a ∧ b ≤ a ∨ mxI a b = b ∧ a ≤ b := by unfold mxI; split <;> omega
theorem ch_ok {j : Nat} {n : Int} {b : Bd} (hj : j < 5) (n0 : 0 ≤ n) (h : bdB b = true) : bdB (chBd j n b) = true := by
  obtain ⟨h1, h2, h3, h4, h5⟩ := bdB_parts h
  have m1 := mn_is b.fr.hi (b.fr.lo + n)
  have m2 := mn_is b.co.hi (b.co.lo + n)
  have m3 := mx_is (-100000) (b.drive - n)
  have m4 := mx_is b.wa.lo (b.wa.hi - n)
  have m5 := mx_is b.fr.lo (b.fr.hi - n)
  simp only [bdB, rgU, inB, Bool.and_eq_true, decide_eq_true_eq]
  rcases ch_cases j hj with rfl | rfl | rfl | rfl | rfl <;> simp only [chBd] <;> omega
theorem holds_le {b b' : Bd} {x y : Rl} (hn : b'.normal = b.normal) (h0 : 0 ≤ x.fr) (h1 : x.fr ≤ y.fr) (h2 : x.co ≤ y.co) (h3 : y.wa ≤ x.wa) : holdsN b x ≤ holdsN b' y := by
  have h := holds_mono (b := b) h0 h1 h2 h3
  unfold holdsN at h ⊢
  rw [hn]
  exact h
/-- What a change does to what a bed holds, and to its drive. -/
theorem ch_does {j : Nat} {n : Int} {b : Bd} (hj : j < 5) (n0 : 0 ≤ n) (h : bdB b = true) : holdsN b (endR false b) ≤ holdsN (chBd j n b) (endR false (chBd j n b)) ∧ (chBd j n b).drive ≤ b.drive ∧ (j ≠ 2 → (chBd j n b).drive = b.drive ∧ holdsN (chBd j n b) (endR true (chBd j n b)) ≤ holdsN b (endR true b)) := by
  obtain ⟨h1, h2, h3, h4, h5⟩ := bdB_parts h
  have m1 := mn_is b.fr.hi (b.fr.lo + n)
  have m2 := mn_is b.co.hi (b.co.lo + n)
  have m3 := mx_is (-100000) (b.drive - n)
  have m4 := mx_is b.wa.lo (b.wa.hi - n)
  have m5 := mx_is b.fr.lo (b.fr.hi - n)
  rcases ch_cases j hj with rfl | rfl | rfl | rfl | rfl
  · exact ⟨holds_le rfl (by simp [endR]; omega) (by simp [endR, chBd]; omega) (by simp [endR, chBd]) (by simp [endR, chBd]), Int.le_refl _, fun _ => ⟨rfl, holds_le rfl (by simp [endR, chBd]; omega) (by simp [endR, chBd]) (by simp [endR, chBd]) (by simp [endR, chBd])⟩⟩
  · exact ⟨holds_le rfl (by simp [endR]; omega) (by simp [endR, chBd]) (by simp [endR, chBd]; omega) (by simp [endR, chBd]), Int.le_refl _, fun _ => ⟨rfl, holds_le rfl (by simp [endR, chBd]; omega) (by simp [endR, chBd]) (by simp [endR, chBd]) (by simp [endR, chBd])⟩⟩
  · exact ⟨Int.le_refl _, by show mxI (-100000) (b.drive - n) ≤ b.drive; omega, fun h => absurd rfl h⟩
  · exact ⟨holds_le rfl (by simp [endR]; omega) (by simp [endR, chBd]) (by simp [endR, chBd]) (by simp [endR, chBd]; omega), Int.le_refl _, fun _ => ⟨rfl, holds_le rfl (by simp [endR, chBd]; omega) (by simp [endR, chBd]) (by simp [endR, chBd]) (by simp [endR, chBd])⟩⟩
  · exact ⟨holds_le rfl (by simp [endR]; omega) (by simp [endR, chBd]) (by simp [endR, chBd]) (by simp [endR, chBd]), Int.le_refl _, fun _ => ⟨rfl, holds_le rfl (by simp [endR, chBd]; omega) (by simp [endR, chBd]; omega) (by simp [endR, chBd]) (by simp [endR, chBd])⟩⟩
/-- A slope with one bed changed. -/
def chS (s : Sd) (k0 b0 : Nat) (b' : Bd) : Sd := ⟨s.cols.set k0 ((s.cols.getD k0 []).set b0 b'), s.least⟩
theorem chS_at (s : Sd) (k0 b0 : Nat) (b' : Bd) (k b : Nat) : bedAt (chS s k0 b0 b').cols k b = if k = k0 ∧ b = b0 then (bedAt s.cols k b).map (fun _ => b') else bedAt s.cols k b := by
  unfold bedAt chS
  dsimp only
  rw [List.getElem?_set]
  by_cases hk : k0 = k
  · subst hk
    rw [if_pos rfl]
    by_cases hl : k0 < s.cols.length
    · rw [if_pos hl]
      obtain ⟨l, hl2⟩ := get_of_lt hl
      have e : s.cols.getD k0 [] = l := by simp [List.getD, hl2]
      rw [hl2, e]
      dsimp only
      rw [List.getElem?_set]
      by_cases hb : b0 = b
      · subst hb
        by_cases hbl : b0 < l.length
        · obtain ⟨x, hx⟩ := get_of_lt hbl
          simp [hbl]
        · simp [hbl]
      · rw [if_neg hb, if_neg (fun h => hb h.2.symm)]
    · rw [if_neg hl, List.getElem?_eq_none (Nat.le_of_not_lt hl)]
      simp
  · rw [if_neg hk, if_neg (fun h => hk h.1.symm)]
theorem chS_n (s : Sd) (k0 b0 : Nat) (b' : Bd) : (chS s k0 b0 b').n = s.n := by
  unfold Sd.n chS
  cases hc : s.cols with
  | nil => rfl
  | cons x t =>
    cases k0 with
    | zero => simp
    | succ k0 => simp
theorem chS_ok {s : Sd} (hs : SdOk s) {k0 b0 : Nat} {b' : Bd} (hb : bdB b' = true) : SdOk (chS s k0 b0 b') where
  cols := by have := hs.cols; simpa [chS] using this
  beds := by rw [chS_n]; exact hs.beds
  least := hs.least
  len l hl := by
    rw [chS_n]
    unfold chS at hl
    rcases List.mem_or_eq_of_mem_set hl with h | h
    · exact hs.len l h
    · rw [h, List.length_set]
      by_cases hk : k0 < s.cols.length
      · obtain ⟨x, hx⟩ := get_of_lt hk
        have e : s.cols.getD k0 [] = x := by simp [List.getD, hx]
        rw [e]
        exact hs.len x (List.mem_of_getElem? hx)
      · rw [List.set_eq_of_length_le (Nat.le_of_not_lt hk)] at hl
        have h2 := hs.len l hl
        rw [h, List.length_set] at h2
        exact h2
  bd l hl b hbm := by
    unfold chS at hl
    rcases List.mem_or_eq_of_mem_set hl with h | h
    · exact hs.bd l h b hbm
    · rw [h] at hbm
      rcases List.mem_or_eq_of_mem_set hbm with h2 | h2
      · by_cases hk : k0 < s.cols.length
        · obtain ⟨x, hx⟩ := get_of_lt hk
          have e : s.cols.getD k0 [] = x := by simp [List.getD, hx]
          rw [e] at h2
          exact hs.bd x (List.mem_of_getElem? hx) b h2
        · have e : s.cols.getD k0 [] = [] := by simp [List.getD, List.getElem?_eq_none (Nat.le_of_not_lt hk)]
          rw [e] at h2
          cases h2
      · rw [h2]; exact hb
/-- The slope with the changed bed, as the law plays it. -/
structure ChK (s s' : Sd) (j : Nat) : Prop where
  ok : SdOk s'
  n : s'.n = s.n
  len : s'.cols.length = s.cols.length
  K : s'.K = s.K
  h0 : ∀ k b, hAt false s k b ≤ hAt false s' k b
  d0 : ∀ k b, dAt s' k b ≤ dAt s k b
  d1 : j ≠ 2 → ∀ k b, dAt s' k b = dAt s k b
  h1 : j ≠ 2 → ∀ k b, hAt true s' k b ≤ hAt true s k b
theorem ch_known {s : Sd} (hs : SdOk s) {j k0 b0 : Nat} {n : Int} {b : Bd} (hj : j < 5) (n0 : 0 ≤ n) (hb : bedAt s.cols k0 b0 = some b) : ChK s (chS s k0 b0 (chBd j n b)) j := by
  obtain ⟨l, hl, _, _, hbm⟩ := bedAt_mem hb
  have hbb := hs.bd l hl b hbm
  have hd := ch_does (j := j) hj n0 hbb
  refine ⟨chS_ok hs (ch_ok hj n0 hbb), chS_n _ _ _ _, by simp [chS], rfl, fun k c => ?_, fun k c => ?_, fun h2 k c => ?_, fun h2 k c => ?_⟩
  all_goals
    first | unfold hAt | unfold dAt
    rw [chS_at]
    by_cases hk : k = k0 ∧ c = b0
    · obtain ⟨rfl, rfl⟩ := hk
      rw [if_pos ⟨rfl, rfl⟩, hb]
      first | exact hd.1 | exact hd.2.1 | exact (hd.2.2 h2).1 | exact (hd.2.2 h2).2
    · first | (rw [if_neg hk]; exact Int.le_refl _) | rw [if_neg hk]
theorem ch_worst {s s' : Sd} {j : Nat} (hs : SdOk s) (h : ChK s s' j) (he : wE s' = 0) : wE s = 0 ∧ wV s ≤ wV s' := by
  have ok := hd_ok hs false
  have ok' := hd_ok h.ok false
  rw [h.n, h.len, h.K] at ok'
  have hw' : worstS s' = worstR (hAt false s') (dAt s') s.n s.cols.length s.K := by unfold worstS; rw [h.n, h.len, h.K]; rfl
  rcases worst_of _ hw' with ⟨_, h2, _⟩ | ⟨u, v, h1, h2, h3⟩
  · omega
  · obtain ⟨u', v', h4, h5⟩ := worst_weak ok' ok h.h0 h.d0 h1
    have h6 : worstS s = some (u', v') := h4
    rcases worst_of _ h6 with ⟨h7, _⟩ | ⟨u2, v2, h7, h8, h9⟩
    · cases h7
    · simp only [Option.some.injEq, Prod.mk.injEq] at h7
      omega
theorem ch_span {s s' : Sm} {j : Nat} (hs : SdOk s.sd) (h : ChK s.sd s'.sd j) (hj : j ≠ 2) {frm : Int} {l : List Int} {k0 : Nat} {m : List Nat} (hf : frm = (k0 : Nat)) (hl : l = m.map fun x : Nat => (x : Int)) (hsf : SurfB s.sd.n s.cs.length s.sd.K k0 m) : spanE s'.sd frm l = spanE s.sd frm l ∧ spanP s.sd frm l false ≤ spanP s'.sd frm l false ∧ spanP s'.sd frm l true ≤ spanP s.sd frm l true := by
  have hlen : s'.cs.length = s.cs.length := by rw [← sd_len, ← sd_len]; exact h.len
  have hsf2 : SurfB s'.sd.n s'.cs.length s'.sd.K k0 m := by rw [h.n, h.K, hlen]; exact hsf
  obtain ⟨eb, _⟩ := surf_known hs hf hl hsf
  obtain ⟨eb', _⟩ := surf_known h.ok hf hl hsf2
  have hck : ∀ (t : Sm), SdOk t.sd → SurfB t.sd.n t.cs.length t.sd.K k0 m → checkUN t.sd frm l = 0 := fun t ht hsf => by
    unfold checkUN
    rw [sdOk_iff.2 ht, hf, hl, (surfB_nat ht).2 (by rw [sd_len]; exact hsf)]
    rfl
  have hD : sumH (dAt s'.sd) k0 m = sumH (dAt s.sd) k0 m := Int.le_antisymm (sumH_le (fun k b => Int.le_of_eq (h.d1 hj k b)) m k0) (sumH_le (fun k b => Int.le_of_eq (h.d1 hj k b).symm) m k0)
  have e1 : ∀ (t : Sm), dK (bedsL t.sd.cols k0 m) (bedsL t.sd.cols k0 m).length = sumH (dAt t.sd) k0 m := fun t => by rw [bedsL_len, dK_sum]
  have hE : spanE s'.sd frm l = spanE s.sd frm l := by
    unfold spanE
    rw [hck s hs hsf, hck s' h.ok hsf2, if_pos rfl, if_pos rfl, eb, eb', e1, e1, hD]
  refine ⟨hE, ?_⟩
  have hP : ∀ (t : Sm) (hi : Bool), facE (bedsL t.sd.cols k0 m) hi = factorN (sumH (hAt hi t.sd) k0 m) (sumH (dAt t.sd) k0 m) := fun t hi => by
    unfold facE
    rw [bedsL_len, hK_sum, dK_sum]
  unfold spanP
  by_cases h0 : spanE s.sd frm l = 0
  · rw [hE, if_pos h0, if_pos h0, if_pos h0, if_pos h0, eb, eb', hP, hP, hP, hP, hD]
    have hd : 1 ≤ sumH (dAt s.sd) k0 m := by
      unfold spanE at h0
      rw [hck s hs hsf, if_pos rfl, eb, e1] at h0
      by_cases hd : sumH (dAt s.sd) k0 m < 1
      · rw [if_pos hd] at h0
        exact absurd h0 (by decide)
      · omega
    exact ⟨factor_le (sumH_nonneg (hd_ok hs false).h0 m k0) (sumH_le h.h0 m k0) hd (Int.le_refl _), factor_le (sumH_nonneg (hd_ok h.ok true).h0 m k0) (sumH_le (h.h1 hj) m k0) hd (Int.le_refl _)⟩
  · rw [hE, if_neg h0, if_neg h0, if_neg h0, if_neg h0]
    exact ⟨Int.le_refl _, Int.le_refl _⟩
theorem flat_setB : ∀ (l : List Bd) (k i : Nat) (b b' : Bd) (v : Value), l[k]? = some b → i < 8 → bdL b' = (bdL b).set i v → (l.flatMap bdL).set (k * 8 + i) v = (l.set k b').flatMap bdL
  | [], k, i, b, b', v, h, _, _ => by simp at h
  | x :: l, 0, i, b, b', v, h, hi, he => by
    have e : x = b := by simpa using h
    subst e
    rw [List.flatMap_cons, List.set_cons_zero, List.flatMap_cons, he, List.set_append_left _ _ (by simp; omega)]
    simp
  | x :: l, k + 1, i, b, b', v, h, hi, he => by
    have ih := flat_setB l k i b b' v (by simpa using h) hi he
    rw [List.flatMap_cons, List.set_cons_succ, List.flatMap_cons, ← ih, List.set_append_right _ _ (by simp; omega)]
    congr 2
    simp
    omega
/-- A bed changed in memory. -/
theorem SmOwn.put {B : Nat} {s : Sm} {W : World} (h : SmOwn B s W) {kc kb i g : Nat} {x : Cl} {b b' : Bd} {v : Value} (hx : s.cs[kc]? = some x) (hg : x.a = some ⟨g, 0, none⟩) (hb : x.beds[kb]? = some b) (hi : i < 8) (he : bdL b' = (bdL b).set i v) :
    SmOk ⟨s.cs.set kc ⟨x.beds.set kb b', x.a, x.cp⟩, s.a, s.c, s.least⟩ (W.setCell ⟨g, kb * 8 + i, none⟩ v) ∧ Sm.sd ⟨s.cs.set kc ⟨x.beds.set kb b', x.a, x.cp⟩, s.a, s.c, s.least⟩ = chS s.sd kc kb b' ∧ B ≤ g := by
  obtain ⟨g0, h1, h2⟩ := h.col x (List.mem_of_getElem? hx)
  rw [hg] at h1
  injection h1 with h1
  injection h1 with h1
  subst h1
  obtain ⟨cs', hcs⟩ := own_cells h2
  have hk := (List.getElem?_eq_some_iff.1 hx).1
  have hcl : (s.cs.set kc ⟨x.beds.set kb b', x.a, x.cp⟩).flatMap clL = s.cs.flatMap clL := by
    rw [List.flatMap_def, List.flatMap_def, List.map_set]
    congr 1
    have e : clL ⟨x.beds.set kb b', x.a, x.cp⟩ = clL x := by simp [clL]
    rw [e]
    refine List.ext_getElem? fun q => ?_
    rw [List.getElem?_set]
    by_cases hq : kc = q
    · subst hq
      rw [if_pos rfl, List.length_map, if_pos hk, List.getElem?_map, hx]
      rfl
    · rw [if_neg hq]
  refine ⟨⟨?_, fun z hz => ?_⟩, ?_, own_ge h2 g rfl⟩
  · have h5 : (W.setCell ⟨g, kb * 8 + i, none⟩ v).ownsRow B 66 1 (.slice s.a (s.cs.set kc ⟨x.beds.set kb b', x.a, x.cp⟩).length s.c) (s.cs.set kc ⟨x.beds.set kb b', x.a, x.cp⟩).length ((s.cs.set kc ⟨x.beds.set kb b', x.a, x.cp⟩).flatMap clL) := by
      rw [hcl, List.length_set]
      exact own_set h.own (own_ne h.own hcs (by decide)) v
    exact row_of_own (by omega) (fun _ => rfl) h5
  · obtain ⟨q, hq⟩ := List.mem_iff_getElem?.1 hz
    rw [List.getElem?_set] at hq
    by_cases hkq : kc = q
    · subst hkq
      rw [if_pos rfl, if_pos hk] at hq
      injection hq with hq
      subst hq
      rw [hg]
      have h6 := own_setAt (off := kb * 8 + i) (u := v) h2
      rw [flat_setB _ _ _ _ _ _ hb hi he] at h6
      have h7 : (W.setCell ⟨g, kb * 8 + i, none⟩ v).ownsRow B 69 8 (.slice (some ⟨g, 0, none⟩) (x.beds.set kb b').length x.cp) (x.beds.set kb b').length ((x.beds.set kb b').flatMap bdL) := by
        rw [List.length_set]
        exact h6
      exact row_of_own (by omega) (fun _ => rfl) h7
    · rw [if_neg hkq] at hq
      obtain ⟨g', h8, h9⟩ := h.col z (List.mem_of_getElem? hq)
      have hne : g' ≠ g := fun e => h.ap q kc z x hq hx (Ne.symm hkq) (by rw [h8, hg, e])
      rw [h8]
      exact row_of_own (by omega) (fun _ => rfl) (own_set h9 (by show some g' ≠ some g; exact fun e => hne (Option.some.inj e)) v)
  · unfold chS Sm.sd
    dsimp only
    have e : (s.cs.map fun x => x.beds).getD kc [] = x.beds := by simp [List.getD, hx]
    rw [List.map_set, e]

end Go.Proofs.Ytkenokpobbichaa
