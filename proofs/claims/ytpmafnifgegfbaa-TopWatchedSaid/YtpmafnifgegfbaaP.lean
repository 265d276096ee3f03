/- Plain laws of the radar layer; its shapes in memory. -/
import Derived.Test.YtpmafnifgegfbaaGB
namespace Go.Proofs.Ytpmafnifgegfbaa
abbrev Mv := Int × Int
section
variable {cand : Nat → List Mv} {rel : Mv → Mv → Bool}
/-- The movements of a spot that go on from those of the spots ahead of it. -/
def fwL (cand : Nat → List Mv) (rel : Mv → Mv → Bool) : Nat → List Mv
  | 0 => cand 0
  | i + 1 => (cand (i + 1)).filter fun m => (fwL cand rel i).any fun o => rel o m
/-- Those from which the row goes on to its end: counted from the last spot. -/
def bwL (cand : Nat → List Mv) (rel : Mv → Mv → Bool) (n : Nat) : Nat → List Mv
  | 0 => fwL cand rel (n - 1)
  | j + 1 => (fwL cand rel (n - 1 - (j + 1))).filter fun m => (bwL cand rel n j).any fun o => rel o m
/-- A row of movements, one of each spot. -/
structure Chain (cand : Nat → List Mv) (rel : Mv → Mv → Bool) (n : Nat) (f : Nat → Mv) : Prop where
  mem : ∀ i, i < n → f i ∈ cand i
  rel : ∀ i, i + 1 < n → rel (f i) (f (i + 1)) = true
theorem fw_mem {m : Mv} : ∀ (i : Nat), m ∈ fwL cand rel i ↔ ∃ f, Chain cand rel (i + 1) f ∧ f i = m
  | 0 => by
    constructor
    · intro h
      exact ⟨fun _ => m, ⟨fun i hi => by obtain rfl : i = 0 := by omega
                                         exact h, fun i hi => by omega⟩, rfl⟩
    · rintro ⟨f, h, rfl⟩
      exact h.mem 0 (by omega)
  | i + 1 => by
    rw [fwL, List.mem_filter, List.any_eq_true]
    constructor
    · rintro ⟨h1, o, h2, h3⟩
      obtain ⟨f, hf, rfl⟩ := (fw_mem i).1 h2
      refine ⟨fun k => if k ≤ i then f k else m, ⟨fun k hk => ?_, fun k hk => ?_⟩, if_neg (by omega)⟩
      · by_cases h : k ≤ i
        · simp only [h, if_true]; exact hf.mem k (by omega)
        · obtain rfl : k = i + 1 := by omega
          simp only [h, if_false]; exact h1
      · by_cases h : k + 1 ≤ i
        · simp only [h, if_true, show k ≤ i by omega]; exact hf.rel k (by omega)
        · obtain rfl : k = i := by omega
          simp only [h, if_false, Nat.le_refl, if_true]; exact h3
    · rintro ⟨f, hf, rfl⟩
      refine ⟨hf.mem (i + 1) (by omega), f i, (fw_mem i).2 ⟨f, ⟨fun k hk => hf.mem k (by omega), fun k hk => hf.rel k (by omega)⟩, rfl⟩, hf.rel i (by omega)⟩
theorem bw_mem {n : Nat} {m : Mv} (hs : ∀ a b, rel a b = rel b a) : ∀ (j : Nat), j < n → (m ∈ bwL cand rel n j ↔ ∃ f, Chain cand rel n f ∧ f (n - 1 - j) = m)
  | 0, hj => by
    rw [bwL, fw_mem]
    rw [show n - 1 + 1 = n by omega, Nat.sub_zero]
  | j + 1, hj => by
    rw [bwL, List.mem_filter, List.any_eq_true, fw_mem]
    obtain ⟨i, hi⟩ : ∃ i, i = n - 1 - (j + 1) := ⟨_, rfl⟩
    rw [← hi]
    have hi2 : n - 1 - j = i + 1 := by omega
    constructor
    · rintro ⟨⟨f, hf, rfl⟩, o, h2, h3⟩
      obtain ⟨g, hg, rfl⟩ := (bw_mem hs j (by omega)).1 h2
      rw [hi2] at h3
      refine ⟨fun k => if k ≤ i then f k else g k, ⟨fun k hk => ?_, fun k hk => ?_⟩, by simp⟩
      · by_cases h : k ≤ i
        · simp only [h, if_true]; exact hf.mem k (by omega)
        · simp only [h, if_false]; exact hg.mem k hk
      · by_cases h : k + 1 ≤ i
        · simp only [h, if_true, show k ≤ i by omega]; exact hf.rel k (by omega)
        · by_cases h' : k = i
          · subst h'
            simp only [h, if_false, Nat.le_refl, if_true]
            rw [hs]
            exact h3
          · simp only [h, if_false, show ¬ k ≤ i by omega]; exact hg.rel k hk
    · rintro ⟨f, hf, rfl⟩
      refine ⟨⟨f, ⟨fun k hk => hf.mem k (by omega), fun k hk => hf.rel k (by omega)⟩, rfl⟩, f (i + 1), (bw_mem hs j (by omega)).2 ⟨f, hf, by rw [hi2]⟩, ?_⟩
      rw [hs]
      exact hf.rel i (by omega)
theorem fw_nil {i : Nat} (h : fwL cand rel i = []) : ∀ k, i ≤ k → fwL cand rel k = [] := by
  intro k hk
  induction k with
  | zero => obtain rfl : i = 0 := by omega
            exact h
  | succ k ih =>
    by_cases e : i = k + 1
    · rw [← e]; exact h
    · rw [fwL, ih (by omega)]
      simp
end

section
open Go.RowKit
structure Tl where
  spot : Int
  a : Int
  b : Int
  turn : Int
  err : Int
  drift : Int
  since : Int
deriving DecidableEq
/-- What a tool may be off on a day; what it sees of a movement. -/
def offN (t : Tl) (day : Int) : Int := t.err + t.drift * (day - t.since)
def sightN (t : Tl) (m : Mv) : Int := t.a * m.1 + t.b * m.2
def amt (n : Int) : Int := mxI n (-n)
theorem amt_le {n k : Int} : amt n ≤ k ↔ -k ≤ n ∧ n ≤ k := by unfold amt mxI; split <;> omega
/-- What is left of a sight behind whole turns. -/
def leftN (left T : Int) : Int := ((left.tmod T) + T).tmod T
theorem left_is {left T : Int} (hT : 0 < T) : leftN left T = left % T := by
  unfold leftN
  have h1 := Int.lt_tmod_of_pos left hT
  have h2 := Int.tmod_lt_of_pos left hT
  rw [Int.tmod_eq_emod_of_nonneg (by omega), Int.add_emod_right]
  have h3 := Int.tmod_eq_emod (a := left) (b := T)
  rw [h3]
  split
  · simp
  · rw [Int.sub_emod, Int.emod_emod]
    have e : (T.natAbs : Int) = T := by omega
    rw [show (T.natAbs : Int) % T = 0 by rw [e]; exact Int.emod_self]
    simp
/-- Does a tool agree with a movement by so many turns (none: by any number)? -/
def agreeN (t : Tl) (day read : Int) (m : Mv) (k : Option Int) : Bool :=
  if t.turn = 0 then decide (amt (sightN t m - read) ≤ offN t day)
  else match k with
    | none => decide (mnI (leftN (sightN t m - read) t.turn) (t.turn - leftN (sightN t m - read) t.turn) ≤ offN t day)
    | some k => decide (amt (sightN t m - read - t.turn * k) ≤ offN t day)
theorem mn_or' (a b : Int) : mnI a b = a ∨ mnI a b = b := by unfold mnI; split <;> simp
theorem mn_le' (a b : Int) : mnI a b ≤ a ∧ mnI a b ≤ b := by unfold mnI; split <;> omega
theorem free_iff {left T off : Int} (hT : 0 < T) : mnI (leftN left T) (T - leftN left T) ≤ off ↔ ∃ k, amt (left - T * k) ≤ off := by
  rw [left_is hT]
  have h0 := Int.emod_nonneg left (show T ≠ 0 by omega)
  have h1 := Int.emod_lt_of_pos left hT
  have hd := Int.mul_ediv_add_emod left T
  obtain ⟨r, hr⟩ : ∃ r, r = left % T := ⟨_, rfl⟩
  obtain ⟨q, hq⟩ : ∃ q, q = left / T := ⟨_, rfl⟩
  rw [← hr] at h0 h1 hd ⊢
  rw [← hq] at hd
  constructor
  · intro h
    rcases mn_or' r (T - r) with e | e
    · rw [e] at h
      refine ⟨q, amt_le.2 ?_⟩
      omega
    · rw [e] at h
      refine ⟨q + 1, amt_le.2 ?_⟩
      have e2 : T * (q + 1) = T * q + T := by rw [Int.mul_add, Int.mul_one]
      omega
  · rintro ⟨k, h⟩
    have h2 := amt_le.1 h
    have h3 := mn_le' r (T - r)
    have e2 : left - T * k = T * (q - k) + r := by rw [Int.mul_sub]; omega
    rw [e2] at h2
    by_cases c : q - k ≤ -1
    · have h4 : T * (q - k) ≤ T * (-1) := Int.mul_le_mul_of_nonneg_left c (by omega)
      have e3 : T * (-1) = -T := by rw [Int.mul_neg, Int.mul_one]
      omega
    · have h4 : T * 0 ≤ T * (q - k) := Int.mul_le_mul_of_nonneg_left (by omega) (by omega)
      rw [Int.mul_zero] at h4
      omega
/-- Such a number of turns is not great. -/
theorem turn_bd {left T off k : Int} (hT : 2 ≤ T) (hl : -1180 ≤ left ∧ left ≤ 1180) (ho : off ≤ 230) (h : amt (left - T * k) ≤ off) : -1500 ≤ k ∧ k ≤ 1500 := by
  have h2 := amt_le.1 h
  constructor
  · by_cases c : -1500 ≤ k
    · exact c
    · have h4 : T * k ≤ T * (-1501) := Int.mul_le_mul_of_nonneg_left (by omega) (by omega)
      have h5 : T * (-1501) ≤ 2 * (-1501) := Int.mul_le_mul_of_nonpos_right hT (by omega)
      omega
  · by_cases c : k ≤ 1500
    · exact c
    · have h4 : T * 1501 ≤ T * k := Int.mul_le_mul_of_nonneg_left (by omega) (by omega)
      have h5 : 2 * 1501 ≤ T * 1501 := Int.mul_le_mul_of_nonneg_right hT (by omega)
      omega
theorem agree_free {t : Tl} {day read : Int} {m : Mv} (hT : t.turn ≠ 0) (h0 : 0 < t.turn) : agreeN t day read m none = true ↔ ∃ k, agreeN t day read m (some k) = true := by
  unfold agreeN
  simp only [if_neg hT, decide_eq_true_eq]
  exact free_iff h0
/-- A number divided by another one, rounded down. -/
def downN (n b : Int) : Int := if n.tmod b < 0 then n.tdiv b - 1 else n.tdiv b
theorem down_is {n b : Int} (hb : 0 < b) : downN n b = n / b := by
  unfold downN
  have h1 := Int.tmod_add_mul_tdiv n b
  have h2 := Int.mul_ediv_add_emod n b
  have h3 := Int.emod_nonneg n (show b ≠ 0 by omega)
  have h4 := Int.emod_lt_of_pos n hb
  have h5 := Int.lt_tmod_of_pos n hb
  have h6 := Int.tmod_lt_of_pos n hb
  obtain ⟨q, hq⟩ : ∃ q, q = n.tdiv b := ⟨_, rfl⟩
  obtain ⟨p, hp⟩ : ∃ p, p = n / b := ⟨_, rfl⟩
  rw [← hq] at h1 ⊢
  rw [← hp] at h2 ⊢
  have key : ∀ d : Int, b * (q - p) = d → d < b → -b < d → q = p := fun d e e1 e2 => by
    rcases Int.lt_trichotomy (q - p) 0 with c | c | c
    · have : b * (q - p) ≤ b * (-1) := Int.mul_le_mul_of_nonneg_left (by omega) (by omega)
      rw [Int.mul_neg, Int.mul_one] at this
      omega
    · omega
    · have : b * 1 ≤ b * (q - p) := Int.mul_le_mul_of_nonneg_left (by omega) (by omega)
      rw [Int.mul_one] at this
      omega
  have e0 : b * (q - p) = b * q - b * p := Int.mul_sub ..
  split
  · rename_i hneg
    have e1 : q - 1 = p := by
      have k2 : ∀ d : Int, b * (q - 1 - p) = d → d < b → -b < d → q - 1 = p := fun d e e1 e2 => by
        rcases Int.lt_trichotomy (q - 1 - p) 0 with c | c | c
        · have : b * (q - 1 - p) ≤ b * (-1) := Int.mul_le_mul_of_nonneg_left (by omega) (by omega)
          rw [Int.mul_neg, Int.mul_one] at this
          omega
        · omega
        · have : b * 1 ≤ b * (q - 1 - p) := Int.mul_le_mul_of_nonneg_left (by omega) (by omega)
          rw [Int.mul_one] at this
          omega
      have e3 : b * (q - 1 - p) = b * q - b - b * p := by rw [Int.mul_sub, Int.mul_sub, Int.mul_one]
      exact k2 _ rfl (by omega) (by omega)
    exact e1
  · exact key _ rfl (by omega) (by omega)
end

section
open Go.RowKit
structure Rg where
  lo : Int
  hi : Int
deriving DecidableEq
structure Sp where
  x : Rg
  y : Rg
deriving DecidableEq
/-- A survey, as data. -/
structure Sd where
  spots : List Sp
  strain : Int
  tools : List Tl
  day : Int
  reads : List Int
def spanL (r : Rg) : List Int := (List.range (r.hi - r.lo + 1).toNat).map fun i : Nat => r.lo + i
theorem mem_span {r : Rg} {n : Int} : n ∈ spanL r ↔ r.lo ≤ n ∧ n ≤ r.hi := by
  unfold spanL
  rw [List.mem_map]
  constructor
  · rintro ⟨i, hi, rfl⟩
    have := List.mem_range.1 hi
    omega
  · intro h
    exact ⟨(n - r.lo).toNat, List.mem_range.2 (by omega), by omega⟩
theorem span_nodup (r : Rg) : (spanL r).Nodup := by
  unfold spanL
  rw [List.nodup_iff_pairwise_ne, List.pairwise_map]
  exact (List.nodup_iff_pairwise_ne.1 List.nodup_range).imp fun h e => h (by omega)
/-- All movements of a spot, in the order in which the program tries them. -/
def movesL (p : Sp) : List Mv := (spanL p.x).flatMap fun x => (spanL p.y).map fun y => (x, y)
theorem mem_moves {p : Sp} {m : Mv} : m ∈ movesL p ↔ (p.x.lo ≤ m.1 ∧ m.1 ≤ p.x.hi) ∧ p.y.lo ≤ m.2 ∧ m.2 ≤ p.y.hi := by
  unfold movesL
  rw [List.mem_flatMap]
  constructor
  · rintro ⟨x, hx, h⟩
    obtain ⟨y, hy, rfl⟩ := List.mem_map.1 h
    exact ⟨mem_span.1 hx, mem_span.1 hy⟩
  · rintro ⟨h1, h2⟩
    exact ⟨m.1, mem_span.2 h1, List.mem_map.2 ⟨m.2, mem_span.2 h2, rfl⟩⟩
theorem moves_nodup (p : Sp) : (movesL p).Nodup := by
  unfold movesL
  rw [List.nodup_iff_pairwise_ne, List.pairwise_flatMap]
  refine ⟨fun x _ => ?_, ?_⟩
  · rw [List.pairwise_map]
    exact (List.nodup_iff_pairwise_ne.1 (span_nodup p.y)).imp fun h e => h (congrArg Prod.snd e)
  · refine (List.nodup_iff_pairwise_ne.1 (span_nodup p.x)).imp fun h a ha b hb e => ?_
    obtain ⟨y, _, rfl⟩ := List.mem_map.1 ha
    obtain ⟨z, _, rfl⟩ := List.mem_map.1 hb
    exact h (congrArg Prod.fst e)
/-- May two movements stand side by side? -/
def nearB (q : Int) (o m : Mv) : Bool := decide (amt (o.1 - m.1) ≤ q) && decide (amt (o.2 - m.2) ≤ q)
theorem near_symm (q : Int) (a b : Mv) : nearB q a b = nearB q b a := by
  have h : ∀ x y : Int, amt (x - y) = amt (y - x) := fun x y => by unfold amt mxI; split <;> split <;> omega
  unfold nearB
  rw [h a.1 b.1, h a.2 b.2]
def readAt (s : Sd) (j : Nat) : Int := s.reads.getD j 0
/-- Does a movement of a spot agree with all tools of the spot, by these turns? -/
def mayB (s : Sd) (ks : List (Option Int)) (i : Nat) (m : Mv) : Bool := (List.range s.tools.length).all fun j => match s.tools[j]? with
  | some t => decide (t.spot ≠ (i : Int)) || agreeN t s.day (readAt s j) m (ks.getD j none)
  | none => true
theorem may_iff {s : Sd} {ks : List (Option Int)} {i : Nat} {m : Mv} : mayB s ks i m = true ↔ ∀ (j : Nat) (t : Tl), s.tools[j]? = some t → t.spot = (i : Int) → agreeN t s.day (readAt s j) m (ks.getD j none) = true := by
  unfold mayB
  rw [List.all_eq_true]
  constructor
  · intro h j t ht he
    have h1 := h j (List.mem_range.2 (List.getElem?_eq_some_iff.1 ht).1)
    rw [ht] at h1
    simpa [he] using h1
  · intro h j hj
    cases ht : s.tools[j]? with
    | none => rfl
    | some t =>
      simp only
      by_cases e : t.spot = (i : Int)
      · rw [h j t ht e, Bool.or_true]
      · simp [e]
def candB (s : Sd) (ks : List (Option Int)) (i : Nat) : List Mv := match s.spots[i]? with
  | some p => (movesL p).filter (mayB s ks i)
  | none => []
/-- The field agrees with the survey, by these turns. -/
abbrev Agree (s : Sd) (ks : List (Option Int)) (f : Nat → Mv) : Prop := Chain (candB s ks) (nearB s.strain) s.spots.length f
def fwS (s : Sd) (ks : List (Option Int)) : Nat → List Mv := fwL (candB s ks) (nearB s.strain)
/-- What is alive of a spot: its movements in all fields that agree. -/
def aliveS (s : Sd) (ks : List (Option Int)) (i : Nat) : List Mv := bwL (candB s ks) (nearB s.strain) s.spots.length (s.spots.length - 1 - i)
def okS (s : Sd) (ks : List (Option Int)) : Bool := (List.range s.spots.length).all fun i => !(fwS s ks i).isEmpty
theorem cand_nodup (s : Sd) (ks : List (Option Int)) (i : Nat) : (candB s ks i).Nodup := by
  unfold candB
  cases s.spots[i]? with
  | none => exact List.nodup_nil
  | some p => exact (moves_nodup p).sublist List.filter_sublist
theorem fw_nodup (s : Sd) (ks : List (Option Int)) : ∀ i, (fwS s ks i).Nodup
  | 0 => cand_nodup s ks 0
  | i + 1 => (cand_nodup s ks (i + 1)).sublist List.filter_sublist
theorem mem_alive {s : Sd} {ks : List (Option Int)} {i : Nat} (hi : i < s.spots.length) {m : Mv} : m ∈ aliveS s ks i ↔ ∃ f, Agree s ks f ∧ f i = m := by
  unfold aliveS
  rw [bw_mem (near_symm _) _ (by omega), show s.spots.length - 1 - (s.spots.length - 1 - i) = i by omega]
theorem ok_iff {s : Sd} {ks : List (Option Int)} (hn : 0 < s.spots.length) : okS s ks = true ↔ ∃ f, Agree s ks f := by
  unfold okS
  rw [List.all_eq_true]
  constructor
  · intro h
    have h1 := h (s.spots.length - 1) (List.mem_range.2 (by omega))
    cases hl : fwS s ks (s.spots.length - 1) with
    | nil => rw [hl] at h1; simp at h1
    | cons m t =>
      have hm : m ∈ fwS s ks (s.spots.length - 1) := by rw [hl]; exact List.mem_cons_self ..
      obtain ⟨f, hf, _⟩ := (fw_mem _).1 hm
      rw [show s.spots.length - 1 + 1 = s.spots.length by omega] at hf
      exact ⟨f, hf⟩
  · rintro ⟨f, hf⟩ i hi
    have hi := List.mem_range.1 hi
    have hm : f i ∈ fwS s ks i := (fw_mem i).2 ⟨f, ⟨fun k hk => hf.mem k (by omega), fun k hk => hf.rel k (by omega)⟩, rfl⟩
    cases hl : fwS s ks i with
    | nil => rw [hl] at hm; cases hm
    | cons _ _ => rfl
/-- The field, told by its parts. -/
theorem agree_iff {s : Sd} {ks : List (Option Int)} {f : Nat → Mv} (hs : ∀ t ∈ s.tools, 0 ≤ t.spot ∧ t.spot < s.spots.length) : Agree s ks f ↔ (∀ (i : Nat) (p : Sp), s.spots[i]? = some p → f i ∈ movesL p) ∧ (∀ i, i + 1 < s.spots.length → nearB s.strain (f i) (f (i + 1)) = true) ∧ ∀ (j : Nat) (t : Tl), s.tools[j]? = some t → agreeN t s.day (readAt s j) (f t.spot.toNat) (ks.getD j none) = true := by
  constructor
  · intro h
    refine ⟨fun i p hp => ?_, h.rel, fun j t ht => ?_⟩
    · have h1 := h.mem i (List.getElem?_eq_some_iff.1 hp).1
      unfold candB at h1
      rw [hp] at h1
      exact (List.mem_filter.1 h1).1
    · have hb := hs t (List.mem_of_getElem? ht)
      have h1 := h.mem t.spot.toNat (by omega)
      unfold candB at h1
      cases hp : s.spots[t.spot.toNat]? with
      | none => rw [hp] at h1; cases h1
      | some p =>
        rw [hp] at h1
        exact may_iff.1 (List.mem_filter.1 h1).2 j t ht (by omega)
  · rintro ⟨h1, h2, h3⟩
    refine ⟨fun i hi => ?_, h2⟩
    unfold candB
    cases hp : s.spots[i]? with
    | none => rw [List.getElem?_eq_none_iff] at hp; omega
    | some p =>
      refine List.mem_filter.2 ⟨h1 i p hp, may_iff.2 fun j t ht he => ?_⟩
      have h4 := h3 j t ht
      rw [he, Int.toNat_natCast] at h4
      exact h4
end

section
open Go.RowKit
def kAll : List Int := (List.range 3001).map fun i : Nat => (i : Int) - 1500
theorem mem_kAll {k : Int} : k ∈ kAll ↔ -1500 ≤ k ∧ k ≤ 1500 := by
  unfold kAll
  rw [List.mem_map]
  constructor
  · rintro ⟨i, hi, rfl⟩
    have := List.mem_range.1 hi
    omega
  · intro h
    exact ⟨(k + 1500).toNat, List.mem_range.2 (by omega), by omega⟩
/-- All whole turns that are possible from a tool on, behind those that are known. -/
def outT (s : Sd) : Nat → Nat → List (Option Int) → List (List (Option Int))
  | 0, _, ks => if okS s ks then [ks] else []
  | r + 1, tool, ks => if okS s ks then (match s.tools[tool]? with
      | some t => if t.turn = 0 then outT s r (tool + 1) ks else kAll.flatMap fun k => outT s r (tool + 1) (ks.set tool (some k))
      | none => []) else []
/-- Turns that a tool may have. -/
def turnOk (t : Tl) (o : Option Int) : Prop := if t.turn = 0 then o = none else ∃ k, o = some k ∧ -1500 ≤ k ∧ k ≤ 1500
theorem agree_less {s : Sd} {ks ks' : List (Option Int)} {f : Nat → Mv} (hs : ∀ t ∈ s.tools, (0 ≤ t.spot ∧ t.spot < s.spots.length) ∧ 0 ≤ t.turn) (h : Agree s ks' f) (hk : ∀ (j : Nat) (t : Tl), s.tools[j]? = some t → ks.getD j none = ks'.getD j none ∨ ks.getD j none = none) : Agree s ks f := by
  rw [agree_iff fun t ht => (hs t ht).1] at h ⊢
  obtain ⟨h1, h2, h3⟩ := h
  refine ⟨h1, h2, fun j t ht => ?_⟩
  have h4 := h3 j t ht
  rcases hk j t ht with e | e
  · rw [e]; exact h4
  · rw [e]
    cases ho : ks'.getD j none with
    | none => rw [ho] at h4; exact h4
    | some k =>
      rw [ho] at h4
      by_cases hT : t.turn = 0
      · unfold agreeN at h4 ⊢
        rw [if_pos hT] at h4 ⊢
        exact h4
      · exact (agree_free hT (by have := (hs t (List.mem_of_getElem? ht)).2; omega)).2 ⟨k, h4⟩
theorem ok_less {s : Sd} {ks ks' : List (Option Int)} (hn : 0 < s.spots.length) (hs : ∀ t ∈ s.tools, (0 ≤ t.spot ∧ t.spot < s.spots.length) ∧ 0 ≤ t.turn) (h : okS s ks' = true) (hk : ∀ (j : Nat) (t : Tl), s.tools[j]? = some t → ks.getD j none = ks'.getD j none ∨ ks.getD j none = none) : okS s ks = true := by
  obtain ⟨f, hf⟩ := (ok_iff hn).1 h
  exact (ok_iff hn).2 ⟨f, agree_less hs hf hk⟩
theorem mem_out {s : Sd} (hn : 0 < s.spots.length) (hs : ∀ t ∈ s.tools, (0 ≤ t.spot ∧ t.spot < s.spots.length) ∧ 0 ≤ t.turn) {x : List (Option Int)} : ∀ (r tool : Nat) (ks : List (Option Int)), tool + r = s.tools.length → ks.length = s.tools.length → (∀ j, tool ≤ j → ks.getD j none = none) →
    (x ∈ outT s r tool ks ↔ x.length = s.tools.length ∧ (∀ j, j < tool → x.getD j none = ks.getD j none) ∧ (∀ (j : Nat) (t : Tl), tool ≤ j → s.tools[j]? = some t → turnOk t (x.getD j none)) ∧ okS s x = true)
  | 0, tool, ks, hr, hl, hf => by
    rw [outT]
    constructor
    · intro h
      by_cases ho : okS s ks = true
      · rw [if_pos ho] at h
        obtain rfl := List.mem_singleton.1 h
        exact ⟨hl, fun _ _ => rfl, fun j t hj ht => by have := (List.getElem?_eq_some_iff.1 ht).1; omega, ho⟩
      · rw [if_neg ho] at h; cases h
    · rintro ⟨h1, h2, _, h4⟩
      have e : x = ks := by
        refine List.ext_getElem? fun j => ?_
        by_cases hj : j < s.tools.length
        · have h5 := h2 j (by omega)
          rw [List.getD_eq_getElem?_getD, List.getD_eq_getElem?_getD, List.getElem?_eq_getElem (by omega), List.getElem?_eq_getElem (by omega)] at h5
          rw [List.getElem?_eq_getElem (by omega), List.getElem?_eq_getElem (by omega)]
          simpa using h5
        · rw [List.getElem?_eq_none (by omega), List.getElem?_eq_none (by omega)]
      rw [← e, if_pos h4]
      exact List.mem_singleton.2 rfl
  | r + 1, tool, ks, hr, hl, hf => by
    obtain ⟨t, ht⟩ : ∃ t, s.tools[tool]? = some t := ⟨_, List.getElem?_eq_getElem (by omega)⟩
    rw [outT]
    by_cases ho : okS s ks = true
    · rw [if_pos ho, ht]
      simp only
      by_cases hT : t.turn = 0
      · rw [if_pos hT, mem_out hn hs r (tool + 1) ks (by omega) hl (fun j hj => hf j (by omega))]
        constructor
        · rintro ⟨h1, h2, h3, h4⟩
          refine ⟨h1, fun j hj => h2 j (by omega), fun j t' hj ht' => ?_, h4⟩
          by_cases e : j = tool
          · subst e
            rw [ht] at ht'
            injection ht' with ht'
            subst ht'
            unfold turnOk
            rw [if_pos hT, h2 j (by omega), hf j (Nat.le_refl _)]
          · exact h3 j t' (by omega) ht'
        · rintro ⟨h1, h2, h3, h4⟩
          refine ⟨h1, fun j hj => ?_, fun j t' hj ht' => h3 j t' (by omega) ht', h4⟩
          by_cases e : j = tool
          · subst e
            have h5 := h3 j t (Nat.le_refl _) ht
            unfold turnOk at h5
            rw [if_pos hT] at h5
            rw [h5, hf j (Nat.le_refl _)]
          · exact h2 j (by omega)
      · rw [if_neg hT, List.mem_flatMap]
        have hset : ∀ (k : Int) (j : Nat), (ks.set tool (some k)).getD j none = if j = tool then some k else ks.getD j none := fun k j => by
          rw [List.getD_eq_getElem?_getD, List.getElem?_set]
          by_cases e : tool = j
          · subst e
            rw [if_pos rfl, if_pos (by omega), if_pos rfl]
            rfl
          · rw [if_neg e, if_neg (Ne.symm e), List.getD_eq_getElem?_getD]
        have hrec := fun k : Int => mem_out hn hs (x := x) r (tool + 1) (ks.set tool (some k)) (by omega) (by rw [List.length_set, hl]) (fun j hj => by rw [hset, if_neg (by omega)]; exact hf j (by omega))
        constructor
        · rintro ⟨k, hk, h⟩
          obtain ⟨h1, h2, h3, h4⟩ := (hrec k).1 h
          refine ⟨h1, fun j hj => ?_, fun j t' hj ht' => ?_, h4⟩
          · rw [h2 j (by omega), hset, if_neg (by omega)]
          · by_cases e : j = tool
            · subst e
              rw [ht] at ht'
              injection ht' with ht'
              subst ht'
              unfold turnOk
              rw [if_neg hT, h2 j (by omega), hset, if_pos rfl]
              exact ⟨k, rfl, mem_kAll.1 hk⟩
            · exact h3 j t' (by omega) ht'
        · rintro ⟨h1, h2, h3, h4⟩
          have h5 := h3 tool t (Nat.le_refl _) ht
          unfold turnOk at h5
          rw [if_neg hT] at h5
          obtain ⟨k, hk, hb⟩ := h5
          refine ⟨k, mem_kAll.2 hb, (hrec k).2 ⟨h1, fun j hj => ?_, fun j t' hj ht' => h3 j t' (by omega) ht', h4⟩⟩
          rw [hset]
          by_cases e : j = tool
          · rw [if_pos e, e, hk]
          · rw [if_neg e]
            exact h2 j (by omega)
    · rw [if_neg ho]
      constructor
      · intro h; cases h
      · rintro ⟨h1, h2, h3, h4⟩
        refine absurd (ok_less hn hs h4 fun j t' ht' => ?_) ho
        by_cases hj : j < tool
        · exact .inl (h2 j hj).symm
        · exact .inr (hf j (by omega))
end

section
open Go.RowKit
/-- The numbers from one to another. -/
def frtoL (a b : Int) : List Int := (List.range (b - a + 1).toNat).map fun i : Nat => a + i
theorem mem_intL {a b k : Int} : k ∈ frtoL a b ↔ a ≤ k ∧ k ≤ b := by
  unfold frtoL
  rw [List.mem_map]
  constructor
  · rintro ⟨i, hi, rfl⟩
    have := List.mem_range.1 hi
    omega
  · intro h
    exact ⟨(k - a).toNat, List.mem_range.2 (by omega), by omega⟩
theorem intL_cut {a b c : Int} (h1 : a ≤ c) (h2 : c ≤ b + 1) : frtoL a b = frtoL a (c - 1) ++ frtoL c b := by
  unfold frtoL
  have e : (b - a + 1).toNat = (c - 1 - a + 1).toNat + (b - c + 1).toNat := by omega
  rw [e, List.range_add, List.map_append, List.map_map]
  congr 1
  apply List.map_congr_left
  intro i _
  simp only [Function.comp_apply]
  omega
theorem kAll_is : kAll = frtoL (-1500) 1500 := by
  unfold kAll frtoL
  apply List.map_congr_left
  intro i _
  omega
theorem flat_nil {α : Type} {g : Int → List α} : ∀ {l : List Int}, (∀ k ∈ l, g k = []) → l.flatMap g = []
  | [], _ => rfl
  | k :: l, h => by rw [List.flatMap_cons, h k (List.mem_cons_self ..), flat_nil (fun q hq => h q (List.mem_cons_of_mem _ hq))]; rfl
/-- A lesser range will do where nothing comes of the rest. -/
theorem flat_cut {α : Type} {g : Int → List α} {a b c d : Int} (h1 : a ≤ c) (h2 : d ≤ b) (h3 : c ≤ d + 1) (h : ∀ k, a ≤ k → k ≤ b → ¬ (c ≤ k ∧ k ≤ d) → g k = []) : (frtoL a b).flatMap g = (frtoL c d).flatMap g := by
  rw [intL_cut h1 (show c ≤ b + 1 by omega), intL_cut h3 (show d + 1 ≤ b + 1 by omega), List.flatMap_append, List.flatMap_append, show d + 1 - 1 = d by omega]
  rw [flat_nil (l := frtoL a (c - 1)) fun k hk => ?_, flat_nil (l := frtoL (d + 1) b) fun k hk => ?_, List.nil_append, List.append_nil]
  · have := mem_intL.1 hk
    exact h k (by omega) (by omega) (by omega)
  · have := mem_intL.1 hk
    exact h k (by omega) (by omega) (by omega)
theorem out_nil {s : Sd} {r tool : Nat} {ks : List (Option Int)} (h : okS s ks = false) : outT s r tool ks = [] := by
  cases r with
  | zero => rw [outT, if_neg (by rw [h]; decide)]
  | succ r => rw [outT, if_neg (by rw [h]; decide)]
/-- The numbers of turns that the program tries are enough. -/
theorem out_cut {s : Sd} (hn : 0 < s.spots.length) (hs : ∀ t ∈ s.tools, (0 ≤ t.spot ∧ t.spot < s.spots.length) ∧ 0 ≤ t.turn) {r tool : Nat} {ks : List (Option Int)} {t : Tl} (ht : s.tools[tool]? = some t) (hl : ks.length = s.tools.length) (hf : ks.getD tool none = none) (hT : t.turn ≠ 0) {lo hi : Int} (hlh : lo ≤ hi) (h0 : 0 ≤ offN t s.day)
    (hb : ∀ m ∈ aliveS s ks t.spot.toNat, lo ≤ sightN t m ∧ sightN t m ≤ hi) (hlo : -1500 ≤ downN (lo - readAt s tool - offN t s.day) t.turn) (hhi : downN (hi - readAt s tool + offN t s.day) t.turn ≤ 1500) :
    (kAll.flatMap fun k => outT s r (tool + 1) (ks.set tool (some k))) = (frtoL (downN (lo - readAt s tool - offN t s.day) t.turn) (downN (hi - readAt s tool + offN t s.day) t.turn)).flatMap fun k => outT s r (tool + 1) (ks.set tool (some k)) := by
  have hTp : 0 < t.turn := by have := (hs t (List.mem_of_getElem? ht)).2; omega
  rw [kAll_is]
  rw [down_is hTp] at hlo ⊢
  rw [down_is hTp] at hhi ⊢
  obtain ⟨R, hR⟩ : ∃ R, R = readAt s tool := ⟨_, rfl⟩
  obtain ⟨o, ho⟩ : ∃ o, o = offN t s.day := ⟨_, rfl⟩
  rw [← hR, ← ho] at hlo hhi ⊢
  rw [← ho] at h0
  refine flat_cut hlo hhi ?_ fun k _ _ hk => out_nil ?_
  · have := Int.ediv_le_ediv hTp (show lo - R - o ≤ hi - R + o by omega)
    omega
  · cases hok : okS s (ks.set tool (some k)) with
    | false => rfl
    | true =>
      exfalso
      obtain ⟨f, hfa⟩ := (ok_iff hn).1 hok
      have hsp := (hs t (List.mem_of_getElem? ht)).1
      have hlt := (List.getElem?_eq_some_iff.1 ht).1
      have hset : ∀ j : Nat, (ks.set tool (some k)).getD j none = if j = tool then some k else ks.getD j none := fun j => by
        rw [List.getD_eq_getElem?_getD, List.getElem?_set]
        by_cases e : tool = j
        · subst e
          rw [if_pos rfl, if_pos (by omega), if_pos rfl]
          rfl
        · rw [if_neg e, if_neg (Ne.symm e), List.getD_eq_getElem?_getD]
      have hal : f t.spot.toNat ∈ aliveS s ks t.spot.toNat := (mem_alive (by omega)).2 ⟨f, agree_less hs hfa (fun j t' _ => by
        rw [hset]
        by_cases e : j = tool
        · rw [e]; exact .inr hf
        · rw [if_neg e]; exact .inl rfl), rfl⟩
      have h1 := hb _ hal
      have h2 := ((agree_iff fun t ht => (hs t ht).1).1 hfa).2.2 tool t ht
      rw [hset, if_pos rfl] at h2
      unfold agreeN at h2
      rw [if_neg hT] at h2
      simp only [decide_eq_true_eq] at h2
      have h3 := amt_le.1 h2
      rw [← hR, ← ho] at h3
      refine hk ⟨?_, ?_⟩
      · have h4 : (lo - R - o) / t.turn ≤ (t.turn * k) / t.turn := Int.ediv_le_ediv hTp (by omega)
        rw [Int.mul_ediv_cancel_left _ hT] at h4
        exact h4
      · have h4 : (t.turn * k) / t.turn ≤ (hi - R + o) / t.turn := Int.ediv_le_ediv hTp (by omega)
        rw [Int.mul_ediv_cancel_left _ hT] at h4
        exact h4
/-- The turns of the tools that have some. -/
def turL : List Tl → List (Option Int) → List Int
  | t :: ts, k :: ks => if t.turn = 0 then turL ts ks else k.getD 0 :: turL ts ks
  | _, _ => []
/-- Does a list come before another one? -/
def lessL : List Int → List Int → Prop
  | a :: l, b :: m => a < b ∨ (a = b ∧ lessL l m)
  | _, _ => False
theorem turL_append : ∀ (ts1 ts2 : List Tl) (k1 k2 : List (Option Int)), ts1.length = k1.length → turL (ts1 ++ ts2) (k1 ++ k2) = turL ts1 k1 ++ turL ts2 k2
  | [], _, [], _, _ => rfl
  | [], _, _ :: _, _, h => by simp at h
  | _ :: _, _, [], _, h => by simp at h
  | t :: ts, ts2, k :: ks, k2, h => by
    simp only [List.cons_append, turL]
    rw [turL_append ts ts2 ks k2 (by simpa using h)]
    split <;> rfl
theorem less_pre : ∀ (p : List Int) {l m : List Int}, lessL l m → lessL (p ++ l) (p ++ m)
  | [], _, _, h => h
  | _ :: p, _, _, h => .inr ⟨rfl, less_pre p h⟩
theorem less_irrefl : ∀ (l : List Int), ¬ lessL l l
  | [], h => h
  | a :: l, h => by
    rcases h with h | h
    · omega
    · exact less_irrefl l h.2
theorem out_sorted {s : Sd} (hn : 0 < s.spots.length) (hs : ∀ t ∈ s.tools, (0 ≤ t.spot ∧ t.spot < s.spots.length) ∧ 0 ≤ t.turn) : ∀ (r tool : Nat) (ks : List (Option Int)), tool + r = s.tools.length → ks.length = s.tools.length → (∀ j, tool ≤ j → ks.getD j none = none) →
    (outT s r tool ks).Pairwise fun x y => lessL (turL s.tools x) (turL s.tools y)
  | 0, tool, ks, _, _, _ => by
    rw [outT]
    split
    · exact List.pairwise_singleton _ _
    · exact List.Pairwise.nil
  | r + 1, tool, ks, hr, hl, hf => by
    obtain ⟨t, ht⟩ : ∃ t, s.tools[tool]? = some t := ⟨_, List.getElem?_eq_getElem (by omega)⟩
    rw [outT]
    split
    · rw [ht]
      simp only
      by_cases hT : t.turn = 0
      · rw [if_pos hT]
        exact out_sorted hn hs r (tool + 1) ks (by omega) hl (fun j hj => hf j (by omega))
      · rw [if_neg hT, List.pairwise_flatMap]
        have hset : ∀ (k : Int) (j : Nat), (ks.set tool (some k)).getD j none = if j = tool then some k else ks.getD j none := fun k j => by
          rw [List.getD_eq_getElem?_getD, List.getElem?_set]
          by_cases e : tool = j
          · subst e
            rw [if_pos rfl, if_pos (by omega), if_pos rfl]
            rfl
          · rw [if_neg e, if_neg (Ne.symm e), List.getD_eq_getElem?_getD]
        have hfr : ∀ k : Int, ∀ j, tool + 1 ≤ j → (ks.set tool (some k)).getD j none = none := fun k j hj => by rw [hset, if_neg (by omega)]; exact hf j (by omega)
        refine ⟨fun k _ => out_sorted hn hs r (tool + 1) _ (by omega) (by rw [List.length_set, hl]) (hfr k), ?_⟩
        unfold kAll
        rw [List.pairwise_map]
        refine (List.pairwise_lt_range).imp fun hab x hx y hy => ?_
        obtain ⟨x1, x2, _, _⟩ := (mem_out hn hs r (tool + 1) _ (by omega) (by rw [List.length_set, hl]) (hfr _)).1 hx
        obtain ⟨y1, y2, _, _⟩ := (mem_out hn hs r (tool + 1) _ (by omega) (by rw [List.length_set, hl]) (hfr _)).1 hy
        have key : ∀ (z : List (Option Int)) (k : Int), z.length = s.tools.length → (∀ j, j < tool + 1 → z.getD j none = (ks.set tool (some k)).getD j none) → ∃ rest, turL s.tools z = turL (s.tools.take tool) (ks.take tool) ++ k :: rest := fun z k h1 h2 => by
          have e1 : s.tools = s.tools.take tool ++ t :: s.tools.drop (tool + 1) := by
            rw [← List.getElem?_eq_some_iff.1 ht |>.2, List.getElem_cons_drop, List.take_append_drop]
          have hzl : tool < z.length := by omega
          have e2 : z = z.take tool ++ z[tool] :: z.drop (tool + 1) := by rw [List.getElem_cons_drop, List.take_append_drop]
          have e3 : z.take tool = ks.take tool := by
            refine List.ext_getElem? fun j => ?_
            rw [List.getElem?_take, List.getElem?_take]
            split
            · rename_i hj
              have h5 := h2 j (by omega)
              rw [hset, if_neg (by omega), List.getD_eq_getElem?_getD, List.getD_eq_getElem?_getD, List.getElem?_eq_getElem (by omega), List.getElem?_eq_getElem (by omega)] at h5
              rw [List.getElem?_eq_getElem (by omega), List.getElem?_eq_getElem (by omega)]
              simpa using h5
            · rfl
          have e4 : z[tool] = some k := by
            have h5 := h2 tool (by omega)
            rw [hset, if_pos rfl, List.getD_eq_getElem?_getD, List.getElem?_eq_getElem hzl] at h5
            simpa using h5
          obtain ⟨d, hd⟩ : ∃ d, d = z.drop (tool + 1) := ⟨_, rfl⟩
          have e5 : z = ks.take tool ++ some k :: d := by rw [hd, ← e3, ← e4]; exact e2
          refine ⟨turL (s.tools.drop (tool + 1)) d, ?_⟩
          clear hd e2 e3 e4 h2
          rw [e5]
          conv => lhs; rw [e1]
          rw [turL_append _ _ _ _ (by rw [List.length_take, List.length_take, hl]), turL, if_neg hT]
          rfl
        obtain ⟨q1, e1⟩ := key x _ x1 x2
        obtain ⟨q2, e2⟩ := key y _ y1 y2
        rw [e1, e2]
        exact less_pre _ (.inl (by omega))
    · exact List.Pairwise.nil
end

section
open Go.RowKit
/-- The ends of a range that has just these numbers. -/
structure EndsOf (l : List Int) (e : Int × Int) : Prop where
  lo : e.1 ∈ l
  hi : e.2 ∈ l
  all : ∀ x ∈ l, e.1 ≤ x ∧ x ≤ e.2
theorem EndsOf.uniq {l l' : List Int} {e e' : Int × Int} (h : EndsOf l e) (h' : EndsOf l' e') (hm : ∀ x, x ∈ l ↔ x ∈ l') : e = e' := by
  have a1 := h.all e'.1 ((hm _).2 h'.lo)
  have a2 := h'.all e.1 ((hm _).1 h.lo)
  have a3 := h.all e'.2 ((hm _).2 h'.hi)
  have a4 := h'.all e.2 ((hm _).1 h.hi)
  exact Prod.ext (by omega) (by omega)
/-- One number more. -/
def joinN (e : Int × Int) (n : Int) (first : Bool) : Int × Int := if first then (n, n) else (mnI e.1 n, mxI e.2 n)
theorem mn_e (a b : Int) : mnI a b ≤ a ∧ mnI a b ≤ b ∧ (mnI a b = a ∨ mnI a b = b) := by unfold mnI; split <;> omega
theorem mx_e (a b : Int) : a ≤ mxI a b ∧ b ≤ mxI a b ∧ (mxI a b = a ∨ mxI a b = b) := by unfold mxI; split <;> omega
theorem EndsOf.join {l : List Int} {e : Int × Int} {n : Int} {first : Bool} (h : first = false → EndsOf l e) (hf : first = true → l = []) : EndsOf (n :: l) (joinN e n first) := by
  cases first with
  | true =>
    rw [hf rfl]
    exact ⟨List.mem_cons_self .., List.mem_cons_self .., fun x hx => by rw [List.mem_singleton.1 hx]; exact ⟨Int.le_refl _, Int.le_refl _⟩⟩
  | false =>
    have h := h rfl
    have h1 := mn_e e.1 n
    have h2 := mx_e e.2 n
    refine ⟨?_, ?_, fun x hx => ?_⟩
    · show mnI e.1 n ∈ n :: l
      rcases h1.2.2 with q | q
      · rw [q]; exact List.mem_cons_of_mem _ h.lo
      · rw [q]; exact List.mem_cons_self ..
    · show mxI e.2 n ∈ n :: l
      rcases h2.2.2 with q | q
      · rw [q]; exact List.mem_cons_of_mem _ h.hi
      · rw [q]; exact List.mem_cons_self ..
    · show mnI e.1 n ≤ x ∧ x ≤ mxI e.2 n
      rcases List.mem_cons.1 hx with rfl | hx
      · omega
      · have := h.all x hx
        omega
/-- The ends of a list, reckoned. -/
def endsN : List Int → Int × Int
  | [] => (0, 0)
  | [n] => (n, n)
  | n :: l => joinN (endsN l) n false
theorem ends_of : ∀ {l : List Int}, l ≠ [] → EndsOf l (endsN l)
  | [], h => absurd rfl h
  | [n], _ => EndsOf.join (l := []) (e := (0, 0)) (first := true) (fun h => by cases h) (fun _ => rfl)
  | n :: m :: l, _ => EndsOf.join (first := false) (fun _ => ends_of (by simp)) (fun h => by cases h)
def freeL (s : Sd) : List (Option Int) := List.replicate s.tools.length none
theorem free_none (s : Sd) (j : Nat) : (freeL s).getD j none = none := by
  unfold freeL
  rw [List.getD_eq_getElem?_getD, List.getElem?_replicate]
  split <;> rfl
/-- What is known of a spot. -/
def learnN (s : Sd) (i : Nat) : Sp := ⟨⟨(endsN ((aliveS s (freeL s) i).map (·.1))).1, (endsN ((aliveS s (freeL s) i).map (·.1))).2⟩, ⟨(endsN ((aliveS s (freeL s) i).map (·.2))).1, (endsN ((aliveS s (freeL s) i).map (·.2))).2⟩⟩
theorem learn_has {s : Sd} {f : Nat → Mv} (hf : Agree s (freeL s) f) {i : Nat} (hi : i < s.spots.length) : ((learnN s i).x.lo ≤ (f i).1 ∧ (f i).1 ≤ (learnN s i).x.hi) ∧ (learnN s i).y.lo ≤ (f i).2 ∧ (f i).2 ≤ (learnN s i).y.hi := by
  have hm := (mem_alive (ks := freeL s) hi).2 ⟨f, hf, rfl⟩
  have h1 : (f i).1 ∈ (aliveS s (freeL s) i).map (·.1) := List.mem_map.2 ⟨_, hm, rfl⟩
  have h2 : (f i).2 ∈ (aliveS s (freeL s) i).map (·.2) := List.mem_map.2 ⟨_, hm, rfl⟩
  exact ⟨(ends_of (List.ne_nil_of_mem h1)).all _ h1, (ends_of (List.ne_nil_of_mem h2)).all _ h2⟩
/-- Each end of what is known is there in a field. -/
theorem learn_end {s : Sd} (hok : ∃ f, Agree s (freeL s) f) {i : Nat} (hi : i < s.spots.length) : (∃ f, Agree s (freeL s) f ∧ (f i).1 = (learnN s i).x.lo) ∧ (∃ f, Agree s (freeL s) f ∧ (f i).1 = (learnN s i).x.hi) ∧ (∃ f, Agree s (freeL s) f ∧ (f i).2 = (learnN s i).y.lo) ∧ ∃ f, Agree s (freeL s) f ∧ (f i).2 = (learnN s i).y.hi := by
  obtain ⟨g, hg⟩ := hok
  have hm := (mem_alive (ks := freeL s) hi).2 ⟨g, hg, rfl⟩
  have key : ∀ (p : Mv → Int) (v : Int), v ∈ (aliveS s (freeL s) i).map p → ∃ f, Agree s (freeL s) f ∧ p (f i) = v := fun p v hv => by
    obtain ⟨m, h1, h2⟩ := List.mem_map.1 hv
    obtain ⟨f, h3, h4⟩ := (mem_alive hi).1 h1
    exact ⟨f, h3, by rw [h4, h2]⟩
  have e1 := ends_of (l := (aliveS s (freeL s) i).map (·.1)) (List.ne_nil_of_mem (List.mem_map.2 ⟨_, hm, rfl⟩))
  have e2 := ends_of (l := (aliveS s (freeL s) i).map (·.2)) (List.ne_nil_of_mem (List.mem_map.2 ⟨_, hm, rfl⟩))
  exact ⟨key _ _ e1.lo, key _ _ e1.hi, key _ _ e2.lo, key _ _ e2.hi⟩
end

section
theorem take_app {α : Type} (n : Nat) (S a b : List α) : ((S ++ a).take n ++ b).take n = (S ++ a ++ b).take n := by
  rw [List.take_append, List.take_append (l₁ := S ++ a), List.take_take, Nat.min_self, List.length_take]
  by_cases h : n ≤ (S ++ a).length
  · rw [Nat.min_eq_left h, Nat.sub_self, List.take_zero, show n - (S ++ a).length = 0 by omega, List.take_zero]
  · rw [Nat.min_eq_right (by omega)]
theorem pair_ext {α : Type} {R : α → α → Prop} (irr : ∀ a, ¬ R a a) (tr : ∀ a b c, R a b → R b c → R a c) : ∀ {l m : List α}, l.Pairwise R → m.Pairwise R → (∀ x, x ∈ l ↔ x ∈ m) → l = m
  | [], [], _, _, _ => rfl
  | [], b :: m, _, _, h => absurd ((h b).2 (List.mem_cons_self ..)) (List.not_mem_nil)
  | a :: l, [], _, _, h => absurd ((h a).1 (List.mem_cons_self ..)) (List.not_mem_nil)
  | a :: l, b :: m, hl, hm, h => by
    rw [List.pairwise_cons] at hl hm
    have e : a = b := by
      rcases List.mem_cons.1 ((h a).1 (List.mem_cons_self ..)) with e | h1
      · exact e
      · rcases List.mem_cons.1 ((h b).2 (List.mem_cons_self ..)) with e | h2
        · exact e.symm
        · exact absurd (tr _ _ _ (hl.1 b h2) (hm.1 a h1)) (irr a)
    subst e
    congr 1
    refine pair_ext irr tr hl.2 hm.2 fun x => ?_
    constructor
    · intro hx
      rcases List.mem_cons.1 ((h x).1 (List.mem_cons_of_mem _ hx)) with e | h1
      · subst e
        exact absurd (hl.1 x hx) (irr x)
      · exact h1
    · intro hx
      rcases List.mem_cons.1 ((h x).2 (List.mem_cons_of_mem _ hx)) with e | h1
      · subst e
        exact absurd (hm.1 x hx) (irr x)
      · exact h1
theorem less_trans : ∀ (a b c : List Int), lessL a b → lessL b c → lessL a c
  | [], _, _, h, _ => absurd h (by simp [lessL])
  | _ :: _, [], _, h, _ => absurd h (by simp [lessL])
  | _ :: _, _ :: _, [], _, h => absurd h (by simp [lessL])
  | x :: a, y :: b, z :: c, h1, h2 => by
    simp only [lessL] at h1 h2 ⊢
    rcases h1 with h1 | ⟨h1, h3⟩ <;> rcases h2 with h2 | ⟨h2, h4⟩
    · exact .inl (by omega)
    · exact .inl (by omega)
    · exact .inl (by omega)
    · exact .inr ⟨by omega, less_trans a b c h3 h4⟩
theorem less_or : ∀ (a b : List Int), a.length = b.length → lessL a b ∨ a = b ∨ lessL b a
  | [], [], _ => .inr (.inl rfl)
  | [], _ :: _, h => by simp at h
  | _ :: _, [], h => by simp at h
  | x :: a, y :: b, h => by
    simp only [lessL]
    rcases Int.lt_trichotomy x y with c | c | c
    · exact .inl (.inl c)
    · rcases less_or a b (by simpa using h) with d | d | d
      · exact .inl (.inr ⟨c, d⟩)
      · exact .inr (.inl (by rw [c, d]))
      · exact .inr (.inr (.inr ⟨c.symm, d⟩))
    · exact .inr (.inr (.inl c))
/-- As the reference has it. -/
def lessB : List Int → List Int → Bool
  | a :: l, b :: m => if a = b then lessB l m else decide (a < b)
  | _, _ => false
theorem lessB_iff : ∀ {a b : List Int}, lessB a b = true ↔ lessL a b
  | [], _ => by simp [lessB, lessL]
  | _ :: _, [] => by simp [lessB, lessL]
  | x :: a, y :: b => by
    simp only [lessB, lessL]
    by_cases h : x = y
    · rw [if_pos h, lessB_iff]
      constructor
      · exact fun h2 => .inr ⟨h, h2⟩
      · rintro (h2 | ⟨_, h2⟩)
        · omega
        · exact h2
    · rw [if_neg h, decide_eq_true_eq]
      constructor
      · exact .inl
      · rintro (h2 | ⟨h2, _⟩)
        · exact h2
        · exact absurd h2 h
/-- A list of lists with one more, in order, each once. -/
def putL : List (List Int) → List Int → List (List Int)
  | [], x => [x]
  | a :: l, x => if lessB a x then a :: putL l x else if lessB x a then x :: a :: l else x :: l
theorem put_mem {n : Nat} : ∀ {l : List (List Int)} {x : List Int}, (∀ a ∈ l, a.length = n) → x.length = n → ∀ y, y ∈ putL l x ↔ y = x ∨ y ∈ l
  | [], x, _, _, y => by simp [putL]
  | a :: l, x, hl, hx, y => by
    rw [putL]
    by_cases h1 : lessB a x = true
    · rw [if_pos h1, List.mem_cons, put_mem (fun b hb => hl b (List.mem_cons_of_mem _ hb)) hx y, List.mem_cons]
      constructor
      · rintro (h | h | h)
        · exact .inr (.inl h)
        · exact .inl h
        · exact .inr (.inr h)
      · rintro (h | h | h)
        · exact .inr (.inl h)
        · exact .inl h
        · exact .inr (.inr h)
    · rw [if_neg h1]
      by_cases h2 : lessB x a = true
      · rw [if_pos h2, List.mem_cons]
      · rw [if_neg h2, List.mem_cons, List.mem_cons]
        have e : a = x := by
          rcases less_or a x (by rw [hl a (List.mem_cons_self ..), hx]) with h | h | h
          · exact absurd (lessB_iff.2 h) h1
          · exact h
          · exact absurd (lessB_iff.2 h) h2
        rw [e]
        constructor
        · rintro (h | h)
          · exact .inl h
          · exact .inr (.inr h)
        · rintro (h | h | h)
          · exact .inl h
          · exact .inl h
          · exact .inr h
theorem put_sorted {n : Nat} : ∀ {l : List (List Int)} {x : List Int}, (∀ a ∈ l, a.length = n) → x.length = n → l.Pairwise lessL → (putL l x).Pairwise lessL
  | [], x, _, _, _ => List.pairwise_singleton _ _
  | a :: l, x, hl, hx, hp => by
    have hl' : ∀ b ∈ l, b.length = n := fun b hb => hl b (List.mem_cons_of_mem _ hb)
    rw [List.pairwise_cons] at hp
    rw [putL]
    by_cases h1 : lessB a x = true
    · rw [if_pos h1, List.pairwise_cons]
      refine ⟨fun b hb => ?_, put_sorted hl' hx hp.2⟩
      rcases (put_mem hl' hx b).1 hb with e | e
      · rw [e]; exact lessB_iff.1 h1
      · exact hp.1 b e
    · rw [if_neg h1]
      by_cases h2 : lessB x a = true
      · rw [if_pos h2, List.pairwise_cons, List.pairwise_cons]
        refine ⟨fun b hb => ?_, hp⟩
        rcases List.mem_cons.1 hb with e | e
        · rw [e]; exact lessB_iff.1 h2
        · exact less_trans _ _ _ (lessB_iff.1 h2) (hp.1 b e)
      · rw [if_neg h2, List.pairwise_cons]
        have e : a = x := by
          rcases less_or a x (by rw [hl a (List.mem_cons_self ..), hx]) with h | h | h
          · exact absurd (lessB_iff.2 h) h1
          · exact h
          · exact absurd (lessB_iff.2 h) h2
        rw [← e]
        exact hp
end

section
open Go.RowKit
/-- The tools of a survey agree with a field, each by its turns. -/
def ToolsOk (s : Sd) (ks : List (Option Int)) (f : Nat → Mv) : Prop := ∀ (j : Nat) (t : Tl), s.tools[j]? = some t → agreeN t s.day (readAt s j) (f t.spot.toNat) (ks.getD j none) = true
def ToolIn (s : Sd) : Prop := ∀ t ∈ s.tools, (0 ≤ t.spot ∧ t.spot < s.spots.length) ∧ 0 ≤ t.turn
/-- The movements of a field, apart from the tools. -/
def FieldIn (s : Sd) (f : Nat → Mv) : Prop := (∀ (i : Nat) (p : Sp), s.spots[i]? = some p → f i ∈ movesL p) ∧ ∀ i, i + 1 < s.spots.length → nearB s.strain (f i) (f (i + 1)) = true
theorem agree_parts {s : Sd} {ks : List (Option Int)} {f : Nat → Mv} (hs : ToolIn s) : Agree s ks f ↔ FieldIn s f ∧ ToolsOk s ks f := by
  rw [agree_iff fun t ht => (hs t ht).1]
  exact ⟨fun h => ⟨⟨h.1, h.2.1⟩, h.2.2⟩, fun h => ⟨h.1.1, h.1.2, h.2⟩⟩
/-- A field of a narrower survey is one of the wider one. -/
theorem field_wider {s s' : Sd} {f : Nat → Mv} (hl : s'.spots.length = s.spots.length) (hp : ∀ (i : Nat) (p p' : Sp), s.spots[i]? = some p → s'.spots[i]? = some p' → (p.x.lo ≤ p'.x.lo ∧ p'.x.hi ≤ p.x.hi) ∧ p.y.lo ≤ p'.y.lo ∧ p'.y.hi ≤ p.y.hi) (hq : s'.strain ≤ s.strain) (h : FieldIn s' f) : FieldIn s f := by
  refine ⟨fun i p hi => ?_, fun i hi => ?_⟩
  · obtain ⟨p', hp'⟩ : ∃ p', s'.spots[i]? = some p' := ⟨_, List.getElem?_eq_getElem (by have := (List.getElem?_eq_some_iff.1 hi).1; omega)⟩
    have h1 := mem_moves.1 (h.1 i p' hp')
    have h2 := hp i p p' hi hp'
    exact mem_moves.2 (by omega)
  · have h1 := h.2 i (by omega)
    unfold nearB at h1 ⊢
    simp only [Bool.and_eq_true, decide_eq_true_eq] at h1 ⊢
    omega
/-- A tool that may be off by less agrees with less. -/
theorem agree_off {t t' : Tl} {day read : Int} {m : Mv} {k : Option Int} (h1 : t'.turn = t.turn) (h2 : sightN t' m = sightN t m) (h3 : offN t' day ≤ offN t day) (h : agreeN t' day read m k = true) : agreeN t day read m k = true := by
  unfold agreeN at h ⊢
  rw [h1, h2] at h
  split at h
  · rename_i hT
    rw [if_pos hT]
    simp only [decide_eq_true_eq] at h ⊢
    omega
  · rename_i hT
    rw [if_neg hT]
    cases k with
    | none =>
      simp only [decide_eq_true_eq] at h ⊢
      omega
    | some k =>
      simp only [decide_eq_true_eq] at h ⊢
      omega
/-- A tool that knows its whole turns: its read is greater by so many. -/
theorem agree_sure {t : Tl} {day read k : Int} {m : Mv} {o : Option Int} (hT : t.turn ≠ 0) : agreeN { t with turn := 0 } day (read + t.turn * k) m o = agreeN t day read m (some k) := by
  unfold agreeN
  rw [if_pos rfl, if_neg hT]
  have e1 : sightN { t with turn := 0 } m = sightN t m := rfl
  have e2 : offN { t with turn := 0 } day = offN t day := rfl
  rw [e1, e2]
  simp only
  rw [show sightN t m - (read + t.turn * k) = sightN t m - read - t.turn * k by omega]
/-- A read that is one Turn greater. -/
theorem agree_whole {t : Tl} {day read : Int} {m : Mv} (hT : 0 < t.turn) (o : Option Int) : agreeN t day (read + t.turn) m (o.map fun k => k - 1) = agreeN t day read m o := by
  have hT' : t.turn ≠ 0 := by omega
  unfold agreeN
  rw [if_neg hT', if_neg hT']
  cases o with
  | none =>
    simp only [Option.map_none]
    rw [left_is hT, left_is hT]
    rw [show sightN t m - (read + t.turn) = sightN t m - read - t.turn by omega, Int.sub_emod, Int.emod_self, Int.sub_zero, Int.emod_emod]
  | some k =>
    simp only [Option.map_some]
    have e : t.turn * (k - 1) = t.turn * k - t.turn := by rw [Int.mul_sub, Int.mul_one]
    rw [e, show sightN t m - (read + t.turn) - (t.turn * k - t.turn) = sightN t m - read - t.turn * k by omega]
/-- A read that a field makes, off by no more than the tool may be, and by whole turns. -/
theorem agree_made {t : Tl} {day off k : Int} {m : Mv} (ho : -offN t day ≤ off ∧ off ≤ offN t day) (hT : 0 < t.turn) : agreeN t day (sightN t m + off - k * t.turn) m (some k) = true ∧ agreeN t day (sightN t m + off - k * t.turn) m none = true := by
  have hT' : t.turn ≠ 0 := by omega
  have h1 : agreeN t day (sightN t m + off - k * t.turn) m (some k) = true := by
    unfold agreeN
    rw [if_neg hT']
    simp only [decide_eq_true_eq]
    rw [amt_le]
    have e : t.turn * k = k * t.turn := Int.mul_comm ..
    omega
  exact ⟨h1, (agree_free hT' hT).2 ⟨k, h1⟩⟩
theorem agree_made0 {t : Tl} {day off : Int} {m : Mv} {o : Option Int} (ho : -offN t day ≤ off ∧ off ≤ offN t day) (hT : t.turn = 0) : agreeN t day (sightN t m + off) m o = true := by
  unfold agreeN
  rw [if_pos hT]
  simp only [decide_eq_true_eq]
  rw [amt_le]
  omega
end

section
open Go.RowKit
/-- A valid range of a spot; a valid tool; a valid survey. -/
def rgOk (r : Rg) : Prop := -30 ≤ r.lo ∧ r.lo ≤ r.hi ∧ r.hi ≤ 30 ∧ r.hi ≤ r.lo + 12
structure TlOk (n day : Int) (t : Tl) : Prop where
  spot : 0 ≤ t.spot ∧ t.spot < n
  a : -3 ≤ t.a ∧ t.a ≤ 3
  b : -3 ≤ t.b ∧ t.b ≤ 3
  ab : t.a ≠ 0 ∨ t.b ≠ 0
  turn : t.turn = 0 ∨ (2 ≤ t.turn ∧ t.turn ≤ 200)
  err : 0 ≤ t.err ∧ t.err ≤ 50
  drift : 0 ≤ t.drift ∧ t.drift ≤ 3
  since : 0 ≤ t.since ∧ t.since ≤ day
structure SdOk (s : Sd) : Prop where
  spots : 1 ≤ s.spots.length ∧ s.spots.length ≤ 6
  few : s.tools.length ≤ 8
  strain : 0 ≤ s.strain ∧ s.strain ≤ 60
  day : 0 ≤ s.day ∧ s.day ≤ 60
  reads : s.reads.length = s.tools.length
  spot : ∀ p ∈ s.spots, rgOk p.x ∧ rgOk p.y
  tool : ∀ t ∈ s.tools, TlOk s.spots.length s.day t
  read : ∀ r ∈ s.reads, -1000 ≤ r ∧ r ≤ 1000
theorem SdOk.toolIn {s : Sd} (h : SdOk s) : ToolIn s := fun t ht => ⟨(h.tool t ht).spot, by have := (h.tool t ht).turn; omega⟩
theorem SdOk.rdAt {s : Sd} (h : SdOk s) (j : Nat) : -1000 ≤ readAt s j ∧ readAt s j ≤ 1000 := by
  unfold readAt
  rw [List.getD_eq_getElem?_getD]
  cases hr : s.reads[j]? with
  | none => simp
  | some r => exact h.read r (List.mem_of_getElem? hr)
theorem off_bd {n day : Int} {t : Tl} (h : TlOk n day t) (h0 : 0 ≤ day) (h1 : day ≤ 60) : 0 ≤ offN t day ∧ offN t day ≤ 230 := by
  unfold offN
  have hd := h.drift
  have hs := h.since
  have he := h.err
  have m1 : 0 ≤ t.drift * (day - t.since) := Int.mul_nonneg hd.1 (by omega)
  have m2 : t.drift * (day - t.since) ≤ 3 * (day - t.since) := Int.mul_le_mul_of_nonneg_right hd.2 (by omega)
  omega
theorem mulb {a x A X : Int} (ha : -A ≤ a ∧ a ≤ A) (hx : -X ≤ x ∧ x ≤ X) : -(A * X) ≤ a * x ∧ a * x ≤ A * X := by
  have m1 : (A - a) * (X - x) ≥ 0 := Int.mul_nonneg (by omega) (by omega)
  have m2 : (A + a) * (X + x) ≥ 0 := Int.mul_nonneg (by omega) (by omega)
  have m3 : (A - a) * (X + x) ≥ 0 := Int.mul_nonneg (by omega) (by omega)
  have m4 : (A + a) * (X - x) ≥ 0 := Int.mul_nonneg (by omega) (by omega)
  rw [Int.sub_mul, Int.mul_sub, Int.mul_sub] at m1
  rw [Int.add_mul, Int.mul_add, Int.mul_add] at m2
  rw [Int.sub_mul, Int.mul_add, Int.mul_add] at m3
  rw [Int.add_mul, Int.mul_sub, Int.mul_sub] at m4
  omega
theorem sight_bd {n day : Int} {t : Tl} (h : TlOk n day t) {m : Mv} (h1 : -30 ≤ m.1 ∧ m.1 ≤ 30) (h2 : -30 ≤ m.2 ∧ m.2 ≤ 30) : -180 ≤ sightN t m ∧ sightN t m ≤ 180 := by
  have m1 := mulb h.a h1
  have m2 := mulb h.b h2
  unfold sightN
  omega
theorem moves_bd {s : Sd} (h : SdOk s) {i : Nat} {p : Sp} {m : Mv} (hp : s.spots[i]? = some p) (hm : m ∈ movesL p) : (-30 ≤ m.1 ∧ m.1 ≤ 30) ∧ -30 ≤ m.2 ∧ m.2 ≤ 30 := by
  have h1 := h.spot p (List.mem_of_getElem? hp)
  have h2 := mem_moves.1 hm
  unfold rgOk at h1
  omega
/-- All numbers of turns by which a tool agrees, as the reference has them. -/
def waysN (s : Sd) (j : Nat) (t : Tl) (m : Mv) : List Int := if t.turn = 0 then (if agreeN t s.day (readAt s j) m none then [0] else []) else kAll.filter fun k => agreeN t s.day (readAt s j) m (some k)
theorem ways_iff {s : Sd} (h : SdOk s) {j : Nat} {t : Tl} {m : Mv} (ht : t ∈ s.tools) (h1 : -30 ≤ m.1 ∧ m.1 ≤ 30) (h2 : -30 ≤ m.2 ∧ m.2 ≤ 30) : waysN s j t m ≠ [] ↔ agreeN t s.day (readAt s j) m none = true := by
  have hk := h.tool t ht
  unfold waysN
  by_cases hT : t.turn = 0
  · rw [if_pos hT]
    cases agreeN t s.day (readAt s j) m none <;> simp
  · rw [if_neg hT, agree_free hT (by have := hk.turn; omega)]
    constructor
    · intro hne
      cases hl : kAll.filter fun k => agreeN t s.day (readAt s j) m (some k) with
      | nil => exact absurd hl hne
      | cons k l =>
        have hm : k ∈ kAll.filter fun k => agreeN t s.day (readAt s j) m (some k) := by rw [hl]; exact List.mem_cons_self ..
        exact ⟨k, (List.mem_filter.1 hm).2⟩
    · rintro ⟨k, hk2⟩
      have hsb := sight_bd hk h1 h2
      have hrb := h.rdAt j
      have hob := off_bd hk h.day.1 h.day.2
      have hb : -1500 ≤ k ∧ k ≤ 1500 := by
        refine turn_bd (T := t.turn) (left := sightN t m - readAt s j) (off := offN t s.day) (by have := hk.turn; omega) (by omega) hob.2 ?_
        unfold agreeN at hk2
        rw [if_neg hT] at hk2
        simpa using hk2
      exact List.ne_nil_of_mem (List.mem_filter.2 ⟨mem_kAll.2 hb, hk2⟩)
/-- All fields that agree and begin so, as the reference has them: of r spots more. -/
def fieldsR (s : Sd) (A : List Mv → Bool) : Nat → List Mv → List (List Mv)
  | 0, b => if A b then [b] else []
  | r + 1, b => match s.spots[b.length]? with
    | some p => (movesL p).flatMap fun m => match b.getLast? with
      | none => fieldsR s A r (b ++ [m])
      | some o => if nearB s.strain o m then fieldsR s A r (b ++ [m]) else []
    | none => []
def isFieldB (s : Sd) (f : List Mv) : Bool := decide (f.length = s.spots.length) && (List.range f.length).all fun i => match s.spots[i]?, f[i]? with
  | some p, some m => decide (m ∈ movesL p) && (decide (i = 0) || nearB s.strain (f.getD (i - 1) (0, 0)) m)
  | _, _ => false
theorem mem_fieldsR {s : Sd} {A : List Mv → Bool} {f : List Mv} : ∀ (r : Nat) (b : List Mv), b.length + r = s.spots.length → (f ∈ fieldsR s A r b ↔ A f = true ∧ f.length = s.spots.length ∧ f.take b.length = b ∧ ∀ i, b.length ≤ i → i < s.spots.length → (∃ p m, s.spots[i]? = some p ∧ f[i]? = some m ∧ m ∈ movesL p) ∧ (0 < i → nearB s.strain (f.getD (i - 1) (0, 0)) (f.getD i (0, 0)) = true))
  | 0, b, hb => by
    rw [fieldsR]
    constructor
    · intro h
      by_cases hA : A b = true
      · rw [if_pos hA] at h
        obtain rfl := List.mem_singleton.1 h
        exact ⟨hA, by omega, by rw [List.take_length], fun i h1 h2 => by omega⟩
      · rw [if_neg hA] at h; cases h
    · rintro ⟨h1, h2, h3, _⟩
      have e : f = b := by rw [← h3, List.take_of_length_le (by omega)]
      subst e
      rw [if_pos h1]
      exact List.mem_singleton.2 rfl
  | r + 1, b, hb => by
    obtain ⟨p, hp⟩ : ∃ p, s.spots[b.length]? = some p := ⟨_, List.getElem?_eq_getElem (by omega)⟩
    rw [fieldsR, hp]
    simp only
    rw [List.mem_flatMap]
    have hrec := fun m : Mv => mem_fieldsR (s := s) (A := A) (f := f) r (b ++ [m]) (by rw [List.length_append, List.length_singleton]; omega)
    have hlast : ∀ m : Mv, f.take (b ++ [m]).length = b ++ [m] ↔ f.take b.length = b ∧ f[b.length]? = some m := fun m => by
      rw [List.length_append, List.length_singleton, List.take_add_one]
      constructor
      · intro h
        cases hf : f[b.length]? with
        | none =>
          rw [hf] at h
          have h1 := congrArg List.length h
          simp at h1
          rw [List.getElem?_eq_none_iff] at hf
          omega
        | some q =>
          rw [hf] at h
          have h1 := List.append_inj' h (by simp)
          refine ⟨h1.1, ?_⟩
          have h2 := h1.2
          simp at h2
          rw [h2]
      · rintro ⟨h1, h2⟩
        rw [h1, h2]
        rfl
    have hgo : ∀ m : Mv, (f ∈ match b.getLast? with
        | none => fieldsR s A r (b ++ [m])
        | some o => if nearB s.strain o m then fieldsR s A r (b ++ [m]) else []) ↔ f ∈ fieldsR s A r (b ++ [m]) ∧ (0 < b.length → nearB s.strain (b.getD (b.length - 1) (0, 0)) m = true) := fun m => by
      cases hl : b.getLast? with
      | none =>
        rw [List.getLast?_eq_none_iff] at hl
        subst hl
        simp
      | some o =>
        have h0 : b.getD (b.length - 1) (0, 0) = o := by
          rw [List.getLast?_eq_getElem?] at hl
          rw [List.getD_eq_getElem?_getD, hl]
          rfl
        have hpos : 0 < b.length := by
          cases b with
          | nil => cases hl
          | cons _ _ => simp
        rw [h0]
        simp only
        by_cases hn : nearB s.strain o m = true
        · rw [if_pos hn]
          exact ⟨fun h => ⟨h, fun _ => hn⟩, fun h => h.1⟩
        · rw [if_neg hn]
          exact ⟨fun h => (by cases h), fun h => absurd (h.2 hpos) hn⟩
    constructor
    · rintro ⟨m, hm, h⟩
      obtain ⟨h1, h2⟩ := (hgo m).1 h
      obtain ⟨g1, g2, g3, g4⟩ := (hrec m).1 h1
      obtain ⟨g5, g6⟩ := (hlast m).1 g3
      refine ⟨g1, g2, g5, fun i hi1 hi2 => ?_⟩
      by_cases e : i = b.length
      · subst e
        refine ⟨⟨p, m, hp, g6, hm⟩, fun hpos => ?_⟩
        have h3 := h2 hpos
        rw [show f.getD b.length (0, 0) = m by rw [List.getD_eq_getElem?_getD, g6]; rfl]
        have e2 : f.getD (b.length - 1) (0, 0) = b.getD (b.length - 1) (0, 0) := by
          rw [List.getD_eq_getElem?_getD, List.getD_eq_getElem?_getD]
          have q := congrArg (fun l : List Mv => l[b.length - 1]?) g5
          simp only [List.getElem?_take] at q
          rw [if_pos (by omega)] at q
          rw [q]
        rw [e2]
        exact h3
      · exact g4 i (by rw [List.length_append, List.length_singleton]; omega) hi2
    · rintro ⟨g1, g2, g3, g4⟩
      obtain ⟨⟨p', m, hp', hm, hmem⟩, hnear⟩ := g4 b.length (Nat.le_refl _) (by omega)
      rw [hp] at hp'
      injection hp' with hp'
      subst hp'
      refine ⟨m, hmem, (hgo m).2 ⟨(hrec m).2 ⟨g1, g2, (hlast m).2 ⟨g3, hm⟩, fun i hi1 hi2 => g4 i (by rw [List.length_append, List.length_singleton] at hi1; omega) hi2⟩, fun hpos => ?_⟩⟩
      have h3 := hnear hpos
      rw [show f.getD b.length (0, 0) = m by rw [List.getD_eq_getElem?_getD, hm]; rfl] at h3
      have e2 : f.getD (b.length - 1) (0, 0) = b.getD (b.length - 1) (0, 0) := by
        rw [List.getD_eq_getElem?_getD, List.getD_eq_getElem?_getD]
        have q := congrArg (fun l : List Mv => l[b.length - 1]?) g3
        simp only [List.getElem?_take] at q
        rw [if_pos (by omega)] at q
        rw [q]
      rw [e2] at h3
      exact h3
end

section
open Go.RowKit
/-- A survey, in memory. -/
structure Sm where
  s : Sd
  sa : Option Addr
  sc : Nat
  ta : Option Addr
  tc : Nat
  ra : Option Addr
  rc : Nat
abbrev rgL (r : Rg) : List Value := [vi r.lo, vi r.hi]
abbrev rgV (r : Rg) : Value := .agg #[vi r.lo, vi r.hi]
abbrev spL (p : Sp) : List Value := [vi p.x.lo, vi p.x.hi, vi p.y.lo, vi p.y.hi]
abbrev spC (p : Sp) : Array Value := #[vi p.x.lo, vi p.x.hi, vi p.y.lo, vi p.y.hi]
abbrev spV (p : Sp) : Value := .agg (spC p)
abbrev tlL (t : Tl) : List Value := [vi t.spot, vi t.a, vi t.b, vi t.turn, vi t.err, vi t.drift, vi t.since]
abbrev tlC (t : Tl) : Array Value := #[vi t.spot, vi t.a, vi t.b, vi t.turn, vi t.err, vi t.drift, vi t.since]
abbrev tlV (t : Tl) : Value := .agg (tlC t)
abbrev mvL (m : Mv) : List Value := [vi m.1, vi m.2]
abbrev mvC (m : Mv) : Array Value := #[vi m.1, vi m.2]
abbrev mvV (m : Mv) : Value := .agg (mvC m)
abbrev smC (x : Sm) : Array Value := #[.slice x.sa x.s.spots.length x.sc, vi x.s.strain, .slice x.ta x.s.tools.length x.tc, vi x.s.day, .slice x.ra x.s.reads.length x.rc]
abbrev smV (x : Sm) : Value := .agg (smC x)
/-- A survey lies in memory. -/
structure SmOk (x : Sm) (W : World) : Prop where
  sp : Row spL 4 W W.heap.size x.sa x.s.spots
  tl : Row tlL 7 W W.heap.size x.ta x.s.tools
  rd : Row intL 1 W W.heap.size x.ra x.s.reads
theorem SmOk.next {x : Sm} {W W' : World} (h : SmOk x W) (hb : newer W W') : SmOk x W' :=
  ⟨(h.sp.below hb).more hb.size, (h.tl.below hb).more hb.size, (h.rd.below hb).more hb.size⟩
theorem row4 {w : World} {B : Nat} {A : Option Addr} {l : List Sp} (h : Row spL 4 w B A l) {k : Nat} {c : Sp} (hk : l[k]? = some c) :
    ∃ b off, A = some ⟨b, off, none⟩ ∧ b < B ∧ w.cell? ⟨b, off + k * 4, none⟩ = some (.int .i64 c.x.lo) ∧ w.cell? ⟨b, off + k * 4 + 1, none⟩ = some (.int .i64 c.x.hi) ∧ w.cell? ⟨b, off + k * 4 + 2, none⟩ = some (.int .i64 c.y.lo) ∧ w.cell? ⟨b, off + k * 4 + 3, none⟩ = some (.int .i64 c.y.hi) := by
  obtain ⟨b, off, e, hb, hc⟩ := h (ne_nil_of_get hk)
  exact ⟨b, off, e, hb, hc k c hk 0 _ rfl, hc k c hk 1 _ rfl, hc k c hk 2 _ rfl, hc k c hk 3 _ rfl⟩
theorem row7 {w : World} {B : Nat} {A : Option Addr} {l : List Tl} (h : Row tlL 7 w B A l) {k : Nat} {c : Tl} (hk : l[k]? = some c) :
    ∃ b off, A = some ⟨b, off, none⟩ ∧ b < B ∧ w.cell? ⟨b, off + k * 7, none⟩ = some (.int .i64 c.spot) ∧ w.cell? ⟨b, off + k * 7 + 1, none⟩ = some (.int .i64 c.a) ∧ w.cell? ⟨b, off + k * 7 + 2, none⟩ = some (.int .i64 c.b) ∧ w.cell? ⟨b, off + k * 7 + 3, none⟩ = some (.int .i64 c.turn) ∧
      w.cell? ⟨b, off + k * 7 + 4, none⟩ = some (.int .i64 c.err) ∧ w.cell? ⟨b, off + k * 7 + 5, none⟩ = some (.int .i64 c.drift) ∧ w.cell? ⟨b, off + k * 7 + 6, none⟩ = some (.int .i64 c.since) := by
  obtain ⟨b, off, e, hb, hc⟩ := h (ne_nil_of_get hk)
  exact ⟨b, off, e, hb, hc k c hk 0 _ rfl, hc k c hk 1 _ rfl, hc k c hk 2 _ rfl, hc k c hk 3 _ rfl, hc k c hk 4 _ rfl, hc k c hk 5 _ rfl, hc k c hk 6 _ rfl⟩
theorem row2 {w : World} {B : Nat} {A : Option Addr} {l : List Mv} (h : Row mvL 2 w B A l) {k : Nat} {c : Mv} (hk : l[k]? = some c) :
    ∃ b off, A = some ⟨b, off, none⟩ ∧ b < B ∧ w.cell? ⟨b, off + k * 2, none⟩ = some (.int .i64 c.1) ∧ w.cell? ⟨b, off + k * 2 + 1, none⟩ = some (.int .i64 c.2) := by
  obtain ⟨b, off, e, hb, hc⟩ := h (ne_nil_of_get hk)
  exact ⟨b, off, e, hb, hc k c hk 0 _ rfl, hc k c hk 1 _ rfl⟩
/-- What is valid, by tests. -/
def rgB (r : Rg) : Bool := decide (-30 ≤ r.lo) && decide (r.lo ≤ r.hi) && decide (r.hi ≤ mnI 30 (r.lo + 12))
def spB (p : Sp) : Bool := rgB p.x && rgB p.y
def tlB (n day : Int) (t : Tl) : Bool := inB t.spot 0 (n - 1) && inB t.a (-3) 3 && inB t.b (-3) 3 && (decide (t.a ≠ 0) || decide (t.b ≠ 0)) && (decide (t.turn = 0) || inB t.turn 2 200) && inB t.err 0 50 && inB t.drift 0 3 && inB t.since 0 day
def rdB (n : Int) : Bool := inB n (-1000) 1000
/-- The error of a survey (0: valid). -/
def errN (s : Sd) : Int :=
  if decide (6 < s.spots.length) || decide (8 < s.tools.length) then 3
  else if decide (s.spots.length = 0) || !inB s.strain 0 60 || !inB s.day 0 60 || decide (s.reads.length ≠ s.tools.length) then 1
  else if !(s.spots.all spB) || !(s.tools.all (tlB s.spots.length s.day)) || !(s.reads.all rdB) then 1
  else 0
theorem rgB_iff {r : Rg} : rgB r = true ↔ rgOk r := by
  have e : r.hi ≤ mnI 30 (r.lo + 12) ↔ r.hi ≤ 30 ∧ r.hi ≤ r.lo + 12 := by unfold mnI; split <;> omega
  simp only [rgB, rgOk, Bool.and_eq_true, decide_eq_true_eq, e]
  omega
theorem tlB_iff {n day : Int} {t : Tl} : tlB n day t = true ↔ TlOk n day t := by
  simp only [tlB, inB, Bool.and_eq_true, Bool.or_eq_true, decide_eq_true_eq]
  constructor
  · rintro ⟨⟨⟨⟨⟨⟨⟨h1, h2⟩, h3⟩, h4⟩, h5⟩, h6⟩, h7⟩, h8⟩
    exact ⟨by omega, by omega, by omega, by omega, by omega, by omega, by omega, by omega⟩
  · rintro ⟨h1, h2, h3, h4, h5, h6, h7, h8⟩
    exact ⟨⟨⟨⟨⟨⟨⟨by omega, by omega⟩, by omega⟩, by omega⟩, by omega⟩, by omega⟩, by omega⟩, by omega⟩
theorem err_iff {s : Sd} : errN s = 0 ↔ SdOk s := by
  unfold errN
  by_cases c1 : (decide (6 < s.spots.length) || decide (8 < s.tools.length)) = true
  · rw [if_pos c1]
    refine ⟨fun h => absurd h (by decide), fun h => ?_⟩
    simp only [Bool.or_eq_true, decide_eq_true_eq] at c1
    have := h.spots; have := h.few; omega
  rw [if_neg c1]
  simp only [Bool.or_eq_true, decide_eq_true_eq] at c1
  by_cases c2 : (decide (s.spots.length = 0) || !inB s.strain 0 60 || !inB s.day 0 60 || decide (s.reads.length ≠ s.tools.length)) = true
  · rw [if_pos c2]
    refine ⟨fun h => absurd h (by decide), fun h => ?_⟩
    have h1 := h.spots; have h2 := h.strain; have h3 := h.day; have h4 := h.reads
    simp only [inB, Bool.or_eq_true, decide_eq_true_eq, Bool.not_eq_true', Bool.and_eq_false_iff, decide_eq_false_iff_not] at c2
    omega
  rw [if_neg c2]
  simp only [inB, Bool.or_eq_true, decide_eq_true_eq, Bool.not_eq_true', Bool.and_eq_false_iff, decide_eq_false_iff_not] at c2
  by_cases c3 : (!(s.spots.all spB) || !(s.tools.all (tlB s.spots.length s.day)) || !(s.reads.all rdB)) = true
  · rw [if_pos c3]
    refine ⟨fun h => absurd h (by decide), fun h => ?_⟩
    exfalso
    simp only [Bool.or_eq_true, Bool.not_eq_true'] at c3
    rcases c3 with (c | c) | c
    · have : s.spots.all spB = true := List.all_eq_true.2 fun p hp => by
        have := h.spot p hp
        simp only [spB, Bool.and_eq_true]
        exact ⟨rgB_iff.2 this.1, rgB_iff.2 this.2⟩
      rw [this] at c; cases c
    · have : s.tools.all (tlB s.spots.length s.day) = true := List.all_eq_true.2 fun t ht => tlB_iff.2 (h.tool t ht)
      rw [this] at c; cases c
    · have : s.reads.all rdB = true := List.all_eq_true.2 fun n hn => by
        have := h.read n hn
        simp only [rdB, inB, Bool.and_eq_true, decide_eq_true_eq]
        exact this
      rw [this] at c; cases c
  rw [if_neg c3]
  simp only [Bool.or_eq_true, Bool.not_eq_true', not_or, Bool.not_eq_false] at c3
  refine ⟨fun _ => ?_, fun _ => rfl⟩
  refine ⟨by omega, by omega, by omega, by omega, by omega, fun p hp => ?_, fun t ht => tlB_iff.1 (List.all_eq_true.1 c3.1.2 t ht), fun n hn => ?_⟩
  · have := List.all_eq_true.1 c3.1.1 p hp
    simp only [spB, Bool.and_eq_true] at this
    exact ⟨rgB_iff.1 this.1, rgB_iff.1 this.2⟩
  · have := List.all_eq_true.1 c3.2 n hn
    simp only [rdB, inB, Bool.and_eq_true, decide_eq_true_eq] at this
    exact this
end

section
open Go.RowKit
/-- A list as a field; does it agree, as the reference has it? -/
def fnL (f : List Mv) (i : Nat) : Mv := f.getD i (0, 0)
theorem fnL_at {f : List Mv} {i : Nat} {m : Mv} (h : f[i]? = some m) : fnL f i = m := by
  unfold fnL
  rw [List.getD_eq_getElem?_getD, h]
  rfl
def waysB (s : Sd) (f : List Mv) : Bool := (List.range s.tools.length).all fun j => match s.tools[j]? with
  | some t => !(waysN s j t (fnL f t.spot.toNat)).isEmpty
  | none => true
def agreesB (s : Sd) (f : List Mv) : Bool := isFieldB s f && waysB s f
theorem isField_iff {s : Sd} {f : List Mv} : isFieldB s f = true ↔ f.length = s.spots.length ∧ FieldIn s (fnL f) := by
  unfold isFieldB FieldIn
  rw [Bool.and_eq_true, decide_eq_true_eq, List.all_eq_true]
  constructor
  · rintro ⟨hl, h⟩
    have hat : ∀ i, i < f.length → ∃ p m, s.spots[i]? = some p ∧ f[i]? = some m ∧ m ∈ movesL p ∧ (i = 0 ∨ nearB s.strain (f.getD (i - 1) (0, 0)) m = true) := fun i hi => by
      have h1 := h i (List.mem_range.2 hi)
      obtain ⟨p, hp⟩ : ∃ p, s.spots[i]? = some p := ⟨_, List.getElem?_eq_getElem (by omega)⟩
      obtain ⟨m, hm⟩ : ∃ m, f[i]? = some m := ⟨_, List.getElem?_eq_getElem hi⟩
      rw [hp, hm] at h1
      simp only [Bool.and_eq_true, Bool.or_eq_true, decide_eq_true_eq] at h1
      exact ⟨p, m, hp, hm, h1.1, h1.2⟩
    refine ⟨hl, fun i p hp => ?_, fun i hi => ?_⟩
    · obtain ⟨p', m, h1, h2, h3, _⟩ := hat i (by have := (List.getElem?_eq_some_iff.1 hp).1; omega)
      rw [hp] at h1
      injection h1 with h1
      subst h1
      rw [fnL_at h2]
      exact h3
    · obtain ⟨p', m, h1, h2, h3, h4⟩ := hat (i + 1) (by omega)
      rw [fnL_at h2]
      rcases h4 with h4 | h4
      · omega
      · exact h4
  · rintro ⟨hl, h1, h2⟩
    refine ⟨hl, fun i hi => ?_⟩
    have hi := List.mem_range.1 hi
    obtain ⟨p, hp⟩ : ∃ p, s.spots[i]? = some p := ⟨_, List.getElem?_eq_getElem (by omega)⟩
    obtain ⟨m, hm⟩ : ∃ m, f[i]? = some m := ⟨_, List.getElem?_eq_getElem hi⟩
    rw [hp, hm]
    simp only [Bool.and_eq_true, Bool.or_eq_true, decide_eq_true_eq]
    refine ⟨by rw [← fnL_at hm]; exact h1 i p hp, ?_⟩
    cases i with
    | zero => exact .inl rfl
    | succ i =>
      have h3 := h2 i (by omega)
      rw [fnL_at hm] at h3
      exact .inr h3
theorem FieldIn.bd {s : Sd} (h : SdOk s) {f : Nat → Mv} (hf : FieldIn s f) {i : Nat} (hi : i < s.spots.length) : (-30 ≤ (f i).1 ∧ (f i).1 ≤ 30) ∧ -30 ≤ (f i).2 ∧ (f i).2 ≤ 30 := by
  obtain ⟨p, hp⟩ : ∃ p, s.spots[i]? = some p := ⟨_, List.getElem?_eq_getElem hi⟩
  exact moves_bd h hp (hf.1 i p hp)
theorem waysB_iff {s : Sd} (h : SdOk s) {f : List Mv} (hf : FieldIn s (fnL f)) : waysB s f = true ↔ ToolsOk s (freeL s) (fnL f) := by
  unfold waysB ToolsOk
  rw [List.all_eq_true]
  have key : ∀ (j : Nat) (t : Tl), s.tools[j]? = some t → ((!(waysN s j t (fnL f t.spot.toNat)).isEmpty) = true ↔ agreeN t s.day (readAt s j) (fnL f t.spot.toNat) ((freeL s).getD j none) = true) := fun j t ht => by
    have hm := List.mem_of_getElem? ht
    have hs := (h.tool t hm).spot
    have hb := hf.bd h (i := t.spot.toNat) (by omega)
    rw [free_none, ← ways_iff h hm hb.1 hb.2]
    cases waysN s j t (fnL f t.spot.toNat) <;> simp
  constructor
  · intro h1 j t ht
    have h2 := h1 j (List.mem_range.2 (List.getElem?_eq_some_iff.1 ht).1)
    rw [ht] at h2
    exact (key j t ht).1 h2
  · intro h1 j hj
    cases ht : s.tools[j]? with
    | none => rfl
    | some t => exact (key j t ht).2 (h1 j t ht)
theorem agrees_iff {s : Sd} (h : SdOk s) {f : List Mv} : agreesB s f = true ↔ f.length = s.spots.length ∧ Agree s (freeL s) (fnL f) := by
  unfold agreesB
  rw [Bool.and_eq_true, isField_iff, agree_parts h.toolIn]
  constructor
  · rintro ⟨⟨h1, h2⟩, h3⟩
    exact ⟨h1, h2, (waysB_iff h h2).1 h3⟩
  · rintro ⟨h1, h2, h3⟩
    exact ⟨⟨h1, h2⟩, (waysB_iff h h2).2 h3⟩
/-- All fields that agree. -/
def allR (s : Sd) : List (List Mv) := fieldsR s (agreesB s) s.spots.length []
theorem mem_all {s : Sd} {f : List Mv} : f ∈ allR s ↔ agreesB s f = true := by
  unfold allR
  rw [mem_fieldsR _ _ (by simp)]
  constructor
  · exact fun h => h.1
  · intro h
    have h1 := (Bool.and_eq_true _ _ ▸ h : isFieldB s f = true ∧ waysB s f = true).1
    obtain ⟨hl, h2, h3⟩ := isField_iff.1 h1
    refine ⟨h, hl, by simp, fun i _ hi => ⟨?_, fun h0 => ?_⟩⟩
    · obtain ⟨p, hp⟩ : ∃ p, s.spots[i]? = some p := ⟨_, List.getElem?_eq_getElem hi⟩
      obtain ⟨m, hm⟩ : ∃ m, f[i]? = some m := ⟨_, List.getElem?_eq_getElem (by omega)⟩
      exact ⟨p, m, hp, hm, by rw [← fnL_at hm]; exact h2 i p hp⟩
    · have h4 := h3 (i - 1) (by omega)
      rw [show i - 1 + 1 = i by omega] at h4
      exact h4
theorem listOf {s : Sd} (h : SdOk s) {f : Nat → Mv} (hf : Agree s (freeL s) f) : ∃ l : List Mv, l ∈ allR s ∧ ∀ i, i < s.spots.length → fnL l i = f i := by
  have hat : ∀ i, i < s.spots.length → fnL ((List.range s.spots.length).map f) i = f i := fun i hi => fnL_at (by rw [List.getElem?_map, List.getElem?_range hi]; rfl)
  refine ⟨(List.range s.spots.length).map f, mem_all.2 ((agrees_iff h).2 ⟨by simp, ?_⟩), hat⟩
  exact ⟨fun i hi => by rw [hat i hi]; exact hf.mem i hi, fun i hi => by rw [hat i (by omega), hat (i + 1) hi]; exact hf.rel i hi⟩
theorem all_ne {s : Sd} (h : SdOk s) : allR s ≠ [] ↔ okS s (freeL s) = true := by
  rw [ok_iff (by have := h.spots; omega)]
  constructor
  · intro hne
    cases hl : allR s with
    | nil => exact absurd hl hne
    | cons f l =>
      have hm : f ∈ allR s := by rw [hl]; exact List.mem_cons_self ..
      exact ⟨_, ((agrees_iff h).1 (mem_all.1 hm)).2⟩
  · rintro ⟨f, hf⟩
    obtain ⟨l, hl, _⟩ := listOf h hf
    exact List.ne_nil_of_mem hl
/-- What is known of a spot, as the reference has it. -/
def joinP (p : Sp) (m : Mv) : Sp := ⟨⟨mnI p.x.lo m.1, mxI p.x.hi m.1⟩, ⟨mnI p.y.lo m.2, mxI p.y.hi m.2⟩⟩
def ptP (m : Mv) : Sp := ⟨⟨m.1, m.1⟩, ⟨m.2, m.2⟩⟩
def boxN : List Mv → Sp
  | [] => ptP (0, 0)
  | m :: l => l.foldl joinP (ptP m)
theorem box_ends : ∀ (l l0 : List Mv) (p : Sp), EndsOf (l0.map (·.1)) (p.x.lo, p.x.hi) → EndsOf (l0.map (·.2)) (p.y.lo, p.y.hi) → EndsOf ((l0 ++ l).map (·.1)) ((l.foldl joinP p).x.lo, (l.foldl joinP p).x.hi) ∧ EndsOf ((l0 ++ l).map (·.2)) ((l.foldl joinP p).y.lo, (l.foldl joinP p).y.hi)
  | [], l0, p, h1, h2 => by rw [List.append_nil]; exact ⟨h1, h2⟩
  | m :: l, l0, p, h1, h2 => by
    rw [List.append_cons]
    have tr : ∀ {a : List Int} {n : Int} {e : Int × Int}, EndsOf (n :: a) e → EndsOf (a ++ [n]) e := fun h =>
      ⟨by simpa [or_comm] using h.lo, by simpa [or_comm] using h.hi, fun x hx => h.all x (by simpa [or_comm] using hx)⟩
    refine box_ends l (l0 ++ [m]) (joinP p m) ?_ ?_
    · rw [List.map_append]
      exact tr (EndsOf.join (first := false) (fun _ => h1) (fun h => by cases h))
    · rw [List.map_append]
      exact tr (EndsOf.join (first := false) (fun _ => h2) (fun h => by cases h))
theorem box_of {l : List Mv} (h : l ≠ []) : EndsOf (l.map (·.1)) ((boxN l).x.lo, (boxN l).x.hi) ∧ EndsOf (l.map (·.2)) ((boxN l).y.lo, (boxN l).y.hi) := by
  cases l with
  | nil => exact absurd rfl h
  | cons m l =>
    refine box_ends l [m] (ptP m) ?_ ?_ <;>
    exact ⟨List.mem_cons_self .., List.mem_cons_self .., fun x hx => by rw [List.mem_singleton.1 hx]; exact ⟨Int.le_refl _, Int.le_refl _⟩⟩
theorem learn_box {s : Sd} (h : SdOk s) (hok : okS s (freeL s) = true) {i : Nat} (hi : i < s.spots.length) : boxN ((allR s).map fun f => fnL f i) = learnN s i := by
  have hne : (allR s).map (fun f => fnL f i) ≠ [] := fun e => (all_ne h).2 hok (List.map_eq_nil_iff.1 e)
  have hm : ∀ m, m ∈ (allR s).map (fun f => fnL f i) ↔ m ∈ aliveS s (freeL s) i := fun m => by
    rw [mem_alive hi, List.mem_map]
    constructor
    · rintro ⟨f, hf, rfl⟩
      exact ⟨fnL f, ((agrees_iff h).1 (mem_all.1 hf)).2, rfl⟩
    · rintro ⟨f, hf, rfl⟩
      obtain ⟨l, hl, he⟩ := listOf h hf
      exact ⟨l, hl, he i hi⟩
  have hne2 : aliveS s (freeL s) i ≠ [] := fun e => hne (by
    cases hl : (allR s).map (fun f => fnL f i) with
    | nil => rfl
    | cons m l =>
      have := (hm m).1 (by rw [hl]; exact List.mem_cons_self ..)
      rw [e] at this
      cases this)
  obtain ⟨b1, b2⟩ := box_of hne
  have hmp : ∀ (p : Mv → Int) (x : Int), x ∈ ((allR s).map (fun f => fnL f i)).map p ↔ x ∈ (aliveS s (freeL s) i).map p := fun p x => by
    rw [List.mem_map, List.mem_map]
    exact ⟨fun ⟨m, h1, h2⟩ => ⟨m, (hm m).1 h1, h2⟩, fun ⟨m, h1, h2⟩ => ⟨m, (hm m).2 h1, h2⟩⟩
  have c1 := b1.uniq (ends_of (l := (aliveS s (freeL s) i).map (·.1)) (by simpa using hne2)) (hmp _)
  have c2 := b2.uniq (ends_of (l := (aliveS s (freeL s) i).map (·.2)) (by simpa using hne2)) (hmp _)
  unfold learnN
  rw [← c1, ← c2]
end

section
open Go.RowKit
/-- The whole turns of a field, as the reference has them: from a tool on, behind some numbers. -/
def listsR (s : Sd) (f : List Mv) : Nat → Nat → List Int → List (List Int)
  | 0, _, b => [b]
  | r + 1, tool, b => match s.tools[tool]? with
    | some t => if t.turn = 0 then listsR s f r (tool + 1) b else (waysN s tool t (fnL f t.spot.toNat)).flatMap fun k => listsR s f r (tool + 1) (b ++ [k])
    | none => []
def turnsR (s : Sd) (all : List (List Mv)) : List (List Int) := all.foldl (fun l f => (listsR s f s.tools.length 0 []).foldl putL l) []
/-- A way of a tool, for a field. -/
def wayOk (s : Sd) (f : List Mv) (j : Nat) (t : Tl) (o : Option Int) : Prop := if t.turn = 0 then o = none else ∃ k, o = some k ∧ k ∈ waysN s j t (fnL f t.spot.toNat)
theorem mem_lists {s : Sd} {f : List Mv} {y : List Int} : ∀ (r tool : Nat) (b : List Int), tool + r = s.tools.length →
    (y ∈ listsR s f r tool b ↔ ∃ ks : List (Option Int), ks.length = r ∧ y = b ++ turL (s.tools.drop tool) ks ∧ ∀ (j : Nat) (t : Tl), j < r → s.tools[tool + j]? = some t → wayOk s f (tool + j) t (ks.getD j none))
  | 0, tool, b, hr => by
    rw [listsR, List.mem_singleton]
    constructor
    · rintro rfl
      exact ⟨[], rfl, by rw [List.drop_eq_nil_of_le (by omega)]; simp [turL], fun j _ hj => absurd hj (Nat.not_lt_zero _)⟩
    · rintro ⟨ks, h1, rfl, _⟩
      rw [List.drop_eq_nil_of_le (by omega)]
      simp [turL]
  | r + 1, tool, b, hr => by
    obtain ⟨t, ht⟩ : ∃ t, s.tools[tool]? = some t := ⟨_, List.getElem?_eq_getElem (by omega)⟩
    have hd : s.tools.drop tool = t :: s.tools.drop (tool + 1) := by
      rw [List.drop_eq_getElem_cons (by omega)]
      congr 1
      rw [List.getElem?_eq_getElem (by omega)] at ht
      injection ht
    rw [listsR, ht]
    simp only
    by_cases hT : t.turn = 0
    · rw [if_pos hT, mem_lists r (tool + 1) b (by omega)]
      constructor
      · rintro ⟨ks, h1, h2, h3⟩
        refine ⟨none :: ks, by simp [h1], ?_, fun j t' hj ht' => ?_⟩
        · rw [hd, turL, if_pos hT]; exact h2
        · cases j with
          | zero =>
            rw [Nat.add_zero, ht] at ht'
            injection ht' with ht'
            subst ht'
            unfold wayOk
            rw [if_pos hT]
            rfl
          | succ j =>
            have h4 := h3 j t' (by omega) (by rw [← ht']; congr 1; omega)
            rw [show tool + (j + 1) = tool + 1 + j by omega]
            simpa using h4
      · rintro ⟨ks, h1, h2, h3⟩
        cases ks with
        | nil => cases h1
        | cons k ks =>
          refine ⟨ks, by simpa using h1, ?_, fun j t' hj ht' => ?_⟩
          · rw [hd, turL, if_pos hT] at h2; exact h2
          · have h4 := h3 (j + 1) t' (by omega) (by rw [← ht']; congr 1; omega)
            rw [show tool + (j + 1) = tool + 1 + j by omega] at h4
            simpa using h4
    · rw [if_neg hT, List.mem_flatMap]
      constructor
      · rintro ⟨k, hk, h⟩
        obtain ⟨ks, h1, h2, h3⟩ := (mem_lists r (tool + 1) (b ++ [k]) (by omega)).1 h
        refine ⟨some k :: ks, by simp [h1], ?_, fun j t' hj ht' => ?_⟩
        · rw [hd, turL, if_neg hT, h2]; simp
        · cases j with
          | zero =>
            rw [Nat.add_zero, ht] at ht'
            injection ht' with ht'
            subst ht'
            unfold wayOk
            rw [if_neg hT]
            exact ⟨k, rfl, hk⟩
          | succ j =>
            have h4 := h3 j t' (by omega) (by rw [← ht']; congr 1; omega)
            rw [show tool + (j + 1) = tool + 1 + j by omega]
            simpa using h4
      · rintro ⟨ks, h1, h2, h3⟩
        cases ks with
        | nil => cases h1
        | cons o ks =>
          have h0 := h3 0 t (by omega) (by rw [Nat.add_zero]; exact ht)
          unfold wayOk at h0
          rw [if_neg hT] at h0
          obtain ⟨k, h5, h6⟩ := h0
          have h5 : o = some k := by simpa using h5
          subst h5
          refine ⟨k, by simpa using h6, (mem_lists r (tool + 1) (b ++ [k]) (by omega)).2 ⟨ks, by simpa using h1, ?_, fun j t' hj ht' => ?_⟩⟩
          · rw [hd, turL, if_neg hT] at h2
            rw [h2]
            simp
          · have h4 := h3 (j + 1) t' (by omega) (by rw [← ht']; congr 1; omega)
            rw [show tool + (j + 1) = tool + 1 + j by omega] at h4
            simpa using h4
/-- How many tools have turns. -/
def turnN (ts : List Tl) : Nat := (ts.filter fun t => decide (t.turn ≠ 0)).length
theorem turL_len : ∀ (ts : List Tl) (ks : List (Option Int)), ks.length = ts.length → (turL ts ks).length = turnN ts
  | [], [], _ => rfl
  | [], _ :: _, h => by cases h
  | _ :: _, [], h => by cases h
  | t :: ts, k :: ks, h => by
    have := turL_len ts ks (by simpa using h)
    unfold turnN at this ⊢
    rw [turL]
    by_cases hT : t.turn = 0
    · rw [if_pos hT, this, List.filter_cons_of_neg (by simpa using hT)]
    · rw [if_neg hT, List.filter_cons_of_pos (by simpa using hT), List.length_cons, this, List.length_cons]
theorem lists_len {s : Sd} {f : List Mv} {y : List Int} (h : y ∈ listsR s f s.tools.length 0 []) : y.length = turnN s.tools := by
  obtain ⟨ks, h1, h2, _⟩ := (mem_lists _ _ _ (by omega)).1 h
  rw [h2, List.nil_append, List.drop_zero, turL_len _ _ h1]
theorem puts_inv {n : Nat} : ∀ (xs : List (List Int)) (l : List (List Int)), (∀ x ∈ xs, x.length = n) → (∀ a ∈ l, a.length = n) → l.Pairwise lessL →
    (∀ a ∈ xs.foldl putL l, a.length = n) ∧ (xs.foldl putL l).Pairwise lessL ∧ ∀ y, y ∈ xs.foldl putL l ↔ y ∈ xs ∨ y ∈ l
  | [], l, _, h2, h3 => ⟨h2, h3, fun y => by simp⟩
  | x :: xs, l, h1, h2, h3 => by
    have hx := h1 x (List.mem_cons_self ..)
    have hm := put_mem h2 hx
    have h4 := puts_inv xs (putL l x) (fun z hz => h1 z (List.mem_cons_of_mem _ hz)) (fun a ha => by
      rcases (hm a).1 ha with rfl | ha
      · exact hx
      · exact h2 a ha) (put_sorted h2 hx h3)
    refine ⟨h4.1, h4.2.1, fun y => ?_⟩
    rw [List.foldl_cons, h4.2.2 y, hm y, List.mem_cons]
    constructor
    · rintro (a | a | a)
      · exact .inl (.inr a)
      · exact .inl (.inl a)
      · exact .inr a
    · rintro ((a | a) | a)
      · exact .inr (.inl a)
      · exact .inl a
      · exact .inr (.inr a)
theorem turnsR_inv (s : Sd) : ∀ (all : List (List Mv)) (l : List (List Int)), (∀ a ∈ l, a.length = turnN s.tools) → l.Pairwise lessL →
    (∀ a ∈ all.foldl (fun l f => (listsR s f s.tools.length 0 []).foldl putL l) l, a.length = turnN s.tools) ∧ (all.foldl (fun l f => (listsR s f s.tools.length 0 []).foldl putL l) l).Pairwise lessL ∧ ∀ y, y ∈ all.foldl (fun l f => (listsR s f s.tools.length 0 []).foldl putL l) l ↔ (∃ f ∈ all, y ∈ listsR s f s.tools.length 0 []) ∨ y ∈ l
  | [], l, h2, h3 => ⟨h2, h3, fun y => by simp⟩
  | f :: all, l, h2, h3 => by
    obtain ⟨g1, g2, g3⟩ := puts_inv (listsR s f s.tools.length 0 []) l (fun x hx => lists_len hx) h2 h3
    obtain ⟨k1, k2, k3⟩ := turnsR_inv s all _ g1 g2
    refine ⟨k1, k2, fun y => ?_⟩
    rw [List.foldl_cons, k3 y, g3 y]
    constructor
    · rintro (⟨a, ha, hb⟩ | a | a)
      · exact .inl ⟨a, List.mem_cons_of_mem _ ha, hb⟩
      · exact .inl ⟨f, List.mem_cons_self .., a⟩
      · exact .inr a
    · rintro (⟨a, ha, hb⟩ | a)
      · rcases List.mem_cons.1 ha with rfl | ha
        · exact .inr (.inl hb)
        · exact .inl ⟨a, ha, hb⟩
      · exact .inr (.inr a)
theorem mem_turns {s : Sd} {all : List (List Mv)} {y : List Int} : y ∈ turnsR s all ↔ ∃ f ∈ all, y ∈ listsR s f s.tools.length 0 [] := by
  have := (turnsR_inv s all [] (fun _ h => by cases h) List.Pairwise.nil).2.2 y
  simpa [turnsR] using this
theorem turns_sorted (s : Sd) (all : List (List Mv)) : (turnsR s all).Pairwise lessL := (turnsR_inv s all [] (fun _ h => by cases h) List.Pairwise.nil).2.1
/-- A list is of a field just if the field agrees by it. -/
theorem lists_agree {s : Sd} (h : SdOk s) {f : List Mv} (hf : f ∈ allR s) {ks : List (Option Int)} : (∀ (j : Nat) (t : Tl), j < s.tools.length → s.tools[0 + j]? = some t → wayOk s f (0 + j) t (ks.getD j none)) ↔ Agree s ks (fnL f) ∧ ∀ (j : Nat) (t : Tl), s.tools[j]? = some t → turnOk t (ks.getD j none) := by
  have ha := ((agrees_iff h).1 (mem_all.1 hf)).2
  have hp := (agree_parts h.toolIn).1 ha
  rw [agree_parts h.toolIn]
  constructor
  · intro hw
    have hw2 : ∀ (j : Nat) (t : Tl), s.tools[j]? = some t → wayOk s f j t (ks.getD j none) := fun j t ht => by
      have := hw j t (List.getElem?_eq_some_iff.1 ht).1 (by rw [Nat.zero_add]; exact ht)
      rw [Nat.zero_add] at this
      exact this
    refine ⟨⟨hp.1, fun j t ht => ?_⟩, fun j t ht => ?_⟩
    · have h1 := hw2 j t ht
      unfold wayOk at h1
      by_cases hT : t.turn = 0
      · rw [if_pos hT] at h1
        rw [h1]
        have := hp.2 j t ht
        rw [free_none] at this
        exact this
      · rw [if_neg hT] at h1
        obtain ⟨k, h2, h3⟩ := h1
        unfold waysN at h3
        rw [if_neg hT] at h3
        rw [h2]
        exact (List.mem_filter.1 h3).2
    · have h1 := hw2 j t ht
      unfold wayOk at h1
      unfold turnOk
      by_cases hT : t.turn = 0
      · rw [if_pos hT] at h1 ⊢; exact h1
      · rw [if_neg hT] at h1 ⊢
        obtain ⟨k, h2, h3⟩ := h1
        unfold waysN at h3
        rw [if_neg hT] at h3
        exact ⟨k, h2, mem_kAll.1 (List.mem_filter.1 h3).1⟩
  · rintro ⟨⟨h1, h2⟩, h3⟩ j t hj ht
    rw [Nat.zero_add] at ht ⊢
    have h4 := h2 j t ht
    have h5 := h3 j t ht
    unfold turnOk at h5
    unfold wayOk
    by_cases hT : t.turn = 0
    · rw [if_pos hT] at h5 ⊢; exact h5
    · rw [if_neg hT] at h5 ⊢
      obtain ⟨k, h6, h7⟩ := h5
      refine ⟨k, h6, ?_⟩
      unfold waysN
      rw [if_neg hT]
      rw [h6] at h4
      exact List.mem_filter.2 ⟨mem_kAll.2 h7, h4⟩
/-- All whole turns that are possible. -/
def turnsN (s : Sd) : List (List Int) := (outT s s.tools.length 0 (freeL s)).map (turL s.tools)
theorem mem_out0 {s : Sd} (h : SdOk s) {x : List (Option Int)} : x ∈ outT s s.tools.length 0 (freeL s) ↔ x.length = s.tools.length ∧ (∀ (j : Nat) (t : Tl), s.tools[j]? = some t → turnOk t (x.getD j none)) ∧ okS s x = true := by
  rw [mem_out (by have := h.spots; omega) h.toolIn _ _ _ (by omega) (by simp [freeL]) (fun j _ => free_none s j)]
  constructor
  · rintro ⟨h1, _, h3, h4⟩
    exact ⟨h1, fun j t ht => h3 j t (by omega) ht, h4⟩
  · rintro ⟨h1, h3, h4⟩
    exact ⟨h1, fun j hj => absurd hj (Nat.not_lt_zero _), fun j t _ ht => h3 j t ht, h4⟩
theorem turnsN_sorted {s : Sd} (h : SdOk s) : (turnsN s).Pairwise lessL := by
  unfold turnsN
  rw [List.pairwise_map]
  exact out_sorted (by have := h.spots; omega) h.toolIn _ _ _ (by omega) (by simp [freeL]) (fun j _ => free_none s j)
theorem turns_is {s : Sd} (h : SdOk s) : turnsR s (allR s) = turnsN s := by
  refine pair_ext less_irrefl less_trans (turns_sorted s _) (turnsN_sorted h) fun y => ?_
  rw [mem_turns]
  unfold turnsN
  rw [List.mem_map]
  constructor
  · rintro ⟨f, hf, hy⟩
    obtain ⟨ks, h1, h2, h3⟩ := (mem_lists _ _ _ (by omega)).1 hy
    obtain ⟨h4, h5⟩ := (lists_agree h hf).1 h3
    refine ⟨ks, (mem_out0 h).2 ⟨h1, h5, (ok_iff (by have := h.spots; omega)).2 ⟨_, h4⟩⟩, ?_⟩
    rw [h2, List.nil_append, List.drop_zero]
  · rintro ⟨ks, hk, rfl⟩
    obtain ⟨h1, h2, h3⟩ := (mem_out0 h).1 hk
    obtain ⟨g, hg⟩ := (ok_iff (by have := h.spots; omega)).1 h3
    obtain ⟨l, hl, he⟩ := listOf h (agree_less h.toolIn hg fun j t _ => .inr (free_none s j))
    have hg2 : Agree s ks (fnL l) := ⟨fun i hi => by rw [he i hi]; exact hg.mem i hi, fun i hi => by rw [he i (by omega), he (i + 1) hi]; exact hg.rel i hi⟩
    refine ⟨l, hl, (mem_lists _ _ _ (by omega)).2 ⟨ks, h1, by rw [List.nil_append, List.drop_zero], (lists_agree h hl).2 ⟨hg2, h2⟩⟩⟩
end

end Go.Proofs.Ytpmafnifgegfbaa
