/- The best stake: plain laws. -/
import Derived.Test.YtpmafnifgegfbaaCE
import Derived.Test.YtpmafnifgegfbaaPE
import Derived.Test.YtpmafnifgegfbaaAL2
namespace Go.Proofs.Ytpmafnifgegfbaa
open Go.RowKit Go.Shelf Go.Deep

/-- A survey with one tool more. -/
def addS (s : Sd) (t : Tl) (r : Int) : Sd := { s with tools := s.tools ++ [t], reads := s.reads ++ [r] }
/-- The best stake is the first of those with the least worst. -/
theorem best_inv (s : Sd) (ts : List Tl) : ∀ k : Nat, 1 ≤ k → k ≤ ts.length → ∃ (b : Nat) (t : Tl), b < k ∧ ts[b]? = some t ∧ bestK s ts k = ((b : Int), worstS s t) ∧ ∀ (i : Nat) (u : Tl), i < k → ts[i]? = some u → worstS s t ≤ worstS s u ∧ (i < b → worstS s t < worstS s u)
  | 0, h, _ => absurd h (by omega)
  | k + 1, _, hk => by
    obtain ⟨u, hu⟩ : ∃ u, ts[k]? = some u := ⟨_, List.getElem?_eq_getElem (by omega)⟩
    rw [bestK_succ hu]
    by_cases h0 : k = 0
    · subst h0
      rw [if_pos (.inl rfl)]
      refine ⟨0, u, by omega, hu, rfl, fun i v hi hv => ?_⟩
      obtain rfl : i = 0 := by omega
      rw [hu] at hv
      obtain rfl := Option.some.inj hv
      exact ⟨Int.le_refl _, fun h => absurd h (Nat.lt_irrefl _)⟩
    · obtain ⟨b, t, h1, h2, h3, h4⟩ := best_inv s ts k (by omega) (by omega)
      rw [h3]
      by_cases hlt : worstS s u < worstS s t
      · rw [if_pos (.inr hlt)]
        refine ⟨k, u, by omega, hu, rfl, fun i v hi hv => ?_⟩
        by_cases e : i = k
        · subst e
          rw [hu] at hv
          obtain rfl := Option.some.inj hv
          exact ⟨Int.le_refl _, fun h => absurd h (Nat.lt_irrefl _)⟩
        · have := (h4 i v (by omega) hv).1
          exact ⟨by omega, fun _ => by omega⟩
      · rw [if_neg (fun h => h.elim h0 hlt)]
        refine ⟨b, t, by omega, h2, rfl, fun i v hi hv => ?_⟩
        by_cases e : i = k
        · subst e
          rw [hu] at hv
          obtain rfl := Option.some.inj hv
          exact ⟨by omega, fun h => by omega⟩
        · exact h4 i v (by omega) hv
theorem stake_turn {s : Sd} {ts : List Tl} (h : stakeE s ts = 0) {k : Nat} {t : Tl} (hk : ts[k]? = some t) : errN s = 0 ∧ (1 ≤ ts.length ∧ ts.length ≤ 8) ∧ TlOk s.spots.length s.day t ∧ t.turn = 0 := by
  unfold stakeE at h
  by_cases he : errN s = 0
  · rw [if_pos he] at h
    cases hn : inB ts.length 1 8 with
    | false => rw [hn, if_neg (by decide)] at h; cases h
    | true =>
      rw [hn, if_pos rfl] at h
      cases hal : ts.all (stkB s) with
      | false => rw [hal, if_neg (by decide)] at h; cases h
      | true =>
        have h1 := List.all_eq_true.1 hal t (List.mem_of_getElem? hk)
        unfold stkB at h1
        rw [Bool.and_eq_true] at h1
        exact ⟨he, by unfold inB at hn; simp at hn; omega, tlB_iff.1 h1.1, of_decide_eq_true h1.2⟩
  · rw [if_neg he] at h; exact absurd h he
theorem stake_len {s : Sd} {ts : List Tl} (h : stakeE s ts = 0) : 1 ≤ ts.length ∧ ts.length ≤ 8 := by
  cases ts with
  | nil =>
    unfold stakeE at h
    by_cases he : errN s = 0
    · rw [if_pos he] at h
      cases h
    · rw [if_neg he] at h; exact absurd h he
  | cons t ts => exact (stake_turn (k := 0) (t := t) h rfl).2.1
theorem stake_other {s x : Sd} (hx : errN x = 0) (h1 : x.spots.length = s.spots.length) (h2 : x.day = s.day) {ts : List Tl} (h : stakeE s ts = 0) : stakeE x ts = 0 := by
  have e : stkB x = stkB s := by funext t; unfold stkB; rw [h1, h2]
  unfold stakeE at h ⊢
  by_cases he : errN s = 0
  · rw [if_pos he] at h
    rw [if_pos hx, e]
    exact h
  · rw [if_neg he] at h; exact absurd h he
theorem stake_one {s : Sd} {ts : List Tl} (h : stakeE s ts = 0) {k : Nat} {t : Tl} (hk : ts[k]? = some t) : stakeE s [t] = 0 := by
  obtain ⟨he, _, h2, h3⟩ := stake_turn h hk
  have h4 : stkB s t = true := by unfold stkB; rw [tlB_iff.2 h2, decide_eq_true h3]; rfl
  unfold stakeE
  rw [if_pos he, if_pos (show inB (([t] : List Tl).length : Int) 1 8 = true from rfl), if_pos (by simp [h4])]
theorem best_one {s : Sd} {ts : List Tl} (h : stakeE s ts = 0) {k : Nat} {t : Tl} (hk : ts[k]? = some t) (hp : posE (allT s) = 0) : bestE s [t] = 0 ∧ bestP s [t] = (0, worstS s t) := by
  have h1 : bestE s [t] = 0 := by unfold bestE; rw [if_pos (stake_one h hk)]; exact hp
  refine ⟨h1, ?_⟩
  unfold bestP
  rw [if_pos h1]
  rfl
theorem turnE_pos {s : Sd} (h : SdOk s) : turnE s = posE (allT s) := by unfold turnE; rw [if_pos (err_iff.2 h)]
theorem turnsN_length (s : Sd) : (turnsN s).length = (allT s).length := by unfold turnsN; rw [List.length_map]
/-- A read that a stake may have of a field that agrees is counted. -/
theorem cnt_pos {s : Sd} (h : SdOk s) {t : Tl} (ht : TlOk s.spots.length s.day t) {ks : List (Option Int)} {f : Nat → Mv} (hk : ks.length = s.tools.length) (hto : ∀ (j : Nat) (t : Tl), s.tools[j]? = some t → turnOk t (ks.getD j none)) (ha : Agree s ks f) {r : Int} (hr : inW s t (f t.spot.toNat) r) : 1 ≤ cntP s t (allT s) r := by
  have hsp : t.spot.toNat < s.spots.length := by have := ht.spot; omega
  have hm : ks ∈ (allT s).filter (stakeB s t r) := List.mem_filter.2 ⟨(mem_out0 h).2 ⟨hk, hto, (ok_iff (by have := h.spots; omega)).2 ⟨f, ha⟩⟩, stake_in.2 ⟨_, (mem_alive hsp).2 ⟨f, ha, rfl⟩, hr⟩⟩
  have := List.length_pos_of_mem hm
  unfold cntP
  omega
theorem worst_ge {s : Sd} (h : SdOk s) {t : Tl} (ht : TlOk s.spots.length s.day t) {ks : List (Option Int)} {f : Nat → Mv} (hk : ks.length = s.tools.length) (hto : ∀ (j : Nat) (t : Tl), s.tools[j]? = some t → turnOk t (ks.getD j none)) (ha : Agree s ks f) : 1 ≤ worstS s t := by
  have h1 := (worst_top h ht).1 (sightN t (f t.spot.toNat))
  have h2 := cnt_pos h ht hk hto ha (r := sightN t (f t.spot.toNat)) (by have := off_bd ht h.day.1 h.day.2; unfold inW; omega)
  omega
theorem with_sd {s : Sd} (h : SdOk s) (h8 : s.tools.length < 8) {t : Tl} (ht : TlOk s.spots.length s.day t) {r : Int} (hr : -1000 ≤ r ∧ r ≤ 1000) : SdOk (addS s t r) := by
  refine ⟨h.spots, ?_, h.strain, h.day, ?_, h.spot, fun u hu => ?_, fun q hq => ?_⟩
  · show (s.tools ++ [t]).length ≤ 8
    rw [List.length_append, List.length_singleton]
    omega
  · show (s.reads ++ [r]).length = (s.tools ++ [t]).length
    rw [List.length_append, List.length_append, h.reads]
    rfl
  · rcases List.mem_append.1 hu with hu | hu
    · exact h.tool u hu
    · rw [List.mem_singleton.1 hu]; exact ht
  · rcases List.mem_append.1 hq with hq | hq
    · exact h.read q hq
    · rw [List.mem_singleton.1 hq]; exact hr
theorem with_read {s : Sd} (hs : s.reads.length = s.tools.length) (t : Tl) (r : Int) {j : Nat} (hj : j < s.tools.length) : readAt (addS s t r) j = readAt s j := by
  unfold readAt
  rw [List.getD_eq_getElem?_getD, List.getD_eq_getElem?_getD]
  show ((s.reads ++ [r])[j]?).getD 0 = _
  rw [List.getElem?_append_left (by omega)]
theorem with_last {s : Sd} (hs : s.reads.length = s.tools.length) (t : Tl) (r : Int) : readAt (addS s t r) s.tools.length = r := by
  unfold readAt
  rw [List.getD_eq_getElem?_getD]
  show ((s.reads ++ [r])[s.tools.length]?).getD 0 = _
  rw [← hs, List.getElem?_append_right (Nat.le_refl _), Nat.sub_self]
  rfl
theorem stake_sees {s : Sd} {t : Tl} (hT : t.turn = 0) {m : Mv} {r : Int} {k : Option Int} : agreeN t s.day r m k = true ↔ inW s t m r := by
  unfold agreeN inW
  rw [if_pos hT, decide_eq_true_eq, amt_le]
  omega
theorem with_agree {s : Sd} (h : SdOk s) (h8 : s.tools.length < 8) {t : Tl} (ht : TlOk s.spots.length s.day t) (hT : t.turn = 0) {r : Int} (hr : -1000 ≤ r ∧ r ≤ 1000) {ks : List (Option Int)} {f : Nat → Mv} (hk : ks.length = s.tools.length) : Agree (addS s t r) (ks ++ [none]) f ↔ Agree s ks f ∧ inW s t (f t.spot.toNat) r := by
  rw [agree_parts (with_sd h h8 ht hr).toolIn, agree_parts h.toolIn]
  constructor
  · rintro ⟨h1, h2⟩
    refine ⟨⟨h1, fun j u hu => ?_⟩, ?_⟩
    · have hj := (List.getElem?_eq_some_iff.1 hu).1
      have h3 := h2 j u (by show (s.tools ++ [t])[j]? = some u; rw [List.getElem?_append_left hj]; exact hu)
      rw [with_read h.reads t r hj, List.getD_eq_getElem?_getD, List.getElem?_append_left (by omega), ← List.getD_eq_getElem?_getD] at h3
      exact h3
    · have h3 := h2 s.tools.length t (by show (s.tools ++ [t])[s.tools.length]? = some t; rw [List.getElem?_append_right (Nat.le_refl _), Nat.sub_self]; rfl)
      rw [with_last h.reads t r] at h3
      exact (stake_sees hT).1 h3
  · rintro ⟨⟨h1, h2⟩, h4⟩
    refine ⟨h1, fun j u hu => ?_⟩
    have hu : (s.tools ++ [t])[j]? = some u := hu
    by_cases hj : j < s.tools.length
    · rw [List.getElem?_append_left hj] at hu
      rw [with_read h.reads t r hj, List.getD_eq_getElem?_getD, List.getElem?_append_left (by omega), ← List.getD_eq_getElem?_getD]
      exact h2 j u hu
    · have hj2 := (List.getElem?_eq_some_iff.1 hu).1
      rw [List.length_append, List.length_singleton] at hj2
      obtain rfl : j = s.tools.length := by omega
      rw [List.getElem?_append_right (Nat.le_refl _), Nat.sub_self] at hu
      obtain rfl : t = u := Option.some.inj hu
      rw [with_last h.reads t r]
      exact (stake_sees hT).2 h4
theorem turL_with {s : Sd} {t : Tl} (hT : t.turn = 0) {ks : List (Option Int)} (hk : ks.length = s.tools.length) {o : Option Int} : turL (s.tools ++ [t]) (ks ++ [o]) = turL s.tools ks := by
  rw [turL_append _ _ _ _ hk.symm]
  simp [turL, hT]
/-- The lists that a read of a stake leaves. -/
theorem with_turns {s : Sd} (h : SdOk s) (h8 : s.tools.length < 8) {t : Tl} (ht : TlOk s.spots.length s.day t) (hT : t.turn = 0) {r : Int} (hr : -1000 ≤ r ∧ r ≤ 1000) : turnsN (addS s t r) = ((allT s).filter (stakeB s t r)).map (turL s.tools) := by
  have h' := with_sd h h8 ht hr
  have hsp : t.spot.toNat < s.spots.length := by have := ht.spot; omega
  refine pair_ext less_irrefl less_trans (turnsN_sorted h') ((turnsN_sorted h).sublist (List.Sublist.map _ List.filter_sublist)) fun l => ?_
  have ho : ∀ ks : List (Option Int), ks.length = s.tools.length → ((∀ (j : Nat) (u : Tl), (s.tools ++ [t])[j]? = some u → turnOk u ((ks ++ [none]).getD j none)) ↔ ∀ (j : Nat) (u : Tl), s.tools[j]? = some u → turnOk u (ks.getD j none)) := fun ks hk => by
    constructor
    · intro h1 j u hu
      have hj := (List.getElem?_eq_some_iff.1 hu).1
      have h2 := h1 j u (by rw [List.getElem?_append_left hj]; exact hu)
      rwa [List.getD_eq_getElem?_getD, List.getElem?_append_left (by omega), ← List.getD_eq_getElem?_getD] at h2
    · intro h1 j u hu
      by_cases hj : j < s.tools.length
      · rw [List.getElem?_append_left hj] at hu
        rw [List.getD_eq_getElem?_getD, List.getElem?_append_left (by omega), ← List.getD_eq_getElem?_getD]
        exact h1 j u hu
      · have hj2 := (List.getElem?_eq_some_iff.1 hu).1
        rw [List.length_append, List.length_singleton] at hj2
        obtain rfl : j = s.tools.length := by omega
        rw [List.getElem?_append_right (Nat.le_refl _), Nat.sub_self] at hu
        obtain rfl : t = u := Option.some.inj hu
        unfold turnOk
        rw [if_pos hT, List.getD_eq_getElem?_getD, ← hk, List.getElem?_append_right (Nat.le_refl _), Nat.sub_self]
        rfl
  unfold turnsN
  rw [List.mem_map, List.mem_map]
  constructor
  · rintro ⟨ks', hk', rfl⟩
    obtain ⟨h1, h2, h3⟩ := (mem_out0 h').1 hk'
    have h1 : ks'.length = s.tools.length + 1 := by rw [h1]; show (s.tools ++ [t]).length = _; rw [List.length_append]; rfl
    have hlast := h2 s.tools.length t (by show (s.tools ++ [t])[s.tools.length]? = some t; rw [List.getElem?_append_right (Nat.le_refl _), Nat.sub_self]; rfl)
    unfold turnOk at hlast
    rw [if_pos hT] at hlast
    have hks : ks' = ks'.take s.tools.length ++ [none] := by
      apply List.ext_getElem?
      intro j
      rw [List.getElem?_append, List.length_take, h1]
      by_cases hj : j < s.tools.length
      · rw [if_pos (by omega), List.getElem?_take, if_pos hj]
      · rw [if_neg (by omega)]
        by_cases hj2 : j = s.tools.length
        · subst hj2
          rw [List.getD_eq_getElem?_getD] at hlast
          obtain ⟨o, ho⟩ : ∃ o, ks'[s.tools.length]? = some o := ⟨_, List.getElem?_eq_getElem (by omega)⟩
          rw [ho] at hlast ⊢
          have e : o = none := hlast
          rw [e, show s.tools.length - min s.tools.length (s.tools.length + 1) = 0 by omega]
          rfl
        · rw [List.getElem?_eq_none (by omega), List.getElem?_eq_none (by rw [List.length_singleton]; omega)]
    obtain ⟨ks, hke⟩ : ∃ ks, ks = ks'.take s.tools.length := ⟨_, rfl⟩
    have hkl : ks.length = s.tools.length := by rw [hke, List.length_take, h1]; omega
    rw [← hke] at hks
    subst hks
    obtain ⟨f, hf⟩ := (ok_iff (by have := h'.spots; omega)).1 h3
    obtain ⟨hf1, hf2⟩ := (with_agree h h8 ht hT hr hkl).1 hf
    exact ⟨ks, List.mem_filter.2 ⟨(mem_out0 h).2 ⟨hkl, (ho ks hkl).1 h2, (ok_iff (by have := h.spots; omega)).2 ⟨f, hf1⟩⟩, stake_in.2 ⟨_, (mem_alive hsp).2 ⟨f, hf1, rfl⟩, hf2⟩⟩, (turL_with hT hkl).symm⟩
  · rintro ⟨ks, hk, rfl⟩
    obtain ⟨hk, hst⟩ := List.mem_filter.1 hk
    obtain ⟨h1, h2, h3⟩ := (mem_out0 h).1 hk
    obtain ⟨m, hm, hin⟩ := stake_in.1 hst
    obtain ⟨g, hg, rfl⟩ := (mem_alive hsp).1 hm
    refine ⟨ks ++ [none], (mem_out0 h').2 ⟨?_, (ho ks h1).2 h2, (ok_iff (by have := h'.spots; omega)).2 ⟨g, (with_agree h h8 ht hT hr h1).2 ⟨hg, hin⟩⟩⟩, turL_with hT h1⟩
    show (ks ++ [none]).length = (s.tools ++ [t]).length
    rw [List.length_append, List.length_append, h1]
    rfl
/-- What is left of a read that may come of a stake. -/
theorem with_few {s : Sd} (h : SdOk s) (h8 : s.tools.length < 8) {t : Tl} (ht : TlOk s.spots.length s.day t) (hT : t.turn = 0) {ks : List (Option Int)} {f : Nat → Mv} (hk : ks.length = s.tools.length) (hto : ∀ (j : Nat) (t : Tl), s.tools[j]? = some t → turnOk t (ks.getD j none)) (ha : Agree s ks f) {r : Int} (hrb : -1000 ≤ r ∧ r ≤ 1000) (hr : inW s t (f t.spot.toNat) r) (hp : posE (allT s) = 0) :
    SdOk (addS s t r) ∧ turnE (addS s t r) = 0 ∧ turnLs (addS s t r) = turnsN (addS s t r) ∧ 1 ≤ (turnsN (addS s t r)).length ∧ ((turnsN (addS s t r)).length : Int) ≤ worstS s t := by
  have h' := with_sd h h8 ht hrb
  have hl : ((turnsN (addS s t r)).length : Int) = cntP s t (allT s) r := by rw [with_turns h h8 ht hT hrb, List.length_map]; rfl
  have h1 := cnt_pos h ht hk hto ha hr
  have h2 := (worst_top h ht).1 r
  have h3 := worst_bd h ht
  have h4 := (posE_ok hp).1
  refine ⟨h', ?_⟩
  rcases turn_three h' with ⟨_, _, h5⟩ | ⟨_, _, h5⟩ | ⟨h5, h6, _, _⟩
  · omega
  · rw [h5] at hl
    simp at hl
    omega
  · exact ⟨h5, h6, by omega, by omega⟩

end Go.Proofs.Ytpmafnifgegfbaa
