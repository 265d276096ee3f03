/- The surfaces of a slope: what they cost, the cheapest ones, the least factor, the margin, tables; plain laws. -/
import Derived.Test.YtkenokpobbichaaGA
namespace Go.Proofs.Ytkenokpobbichaa


/-- The beds beside a bed. -/
def nearL (n b : Nat) : List Nat := List.range' (b - 1) (min (n - 1) (b + 1) + 1 - (b - 1))
theorem mem_near {n b x : Nat} (hb : b < n) : x ∈ nearL n b ↔ x < n ∧ b ≤ x + 1 ∧ x ≤ b + 1 := by
  unfold nearL
  rw [List.mem_range'_1]
  omega
def minL (z : Int) (l : List Int) : Int := l.foldl mnI z
theorem minL_le : ∀ (l : List Int) (z : Int), minL z l ≤ z ∧ ∀ x ∈ l, minL z l ≤ x
  | [], z => ⟨Int.le_refl _, fun x h => by simp at h⟩
  | y :: l, z => by
    have h := minL_le l (mnI z y)
    have h2 : mnI z y ≤ z ∧ mnI z y ≤ y := by unfold mnI; split <;> omega
    refine ⟨Int.le_trans h.1 h2.1, fun x hx => ?_⟩
    rcases List.mem_cons.1 hx with rfl | hx
    · exact Int.le_trans h.1 h2.2
    · exact h.2 x hx
theorem minL_mem : ∀ (l : List Int) (z : Int), minL z l = z ∨ minL z l ∈ l
  | [], z => .inl rfl
  | y :: l, z => by
    rcases minL_mem l (mnI z y) with h | h
    · have h2 : mnI z y = z ∨ mnI z y = y := by unfold mnI; split <;> simp
      rcases h2 with h2 | h2
      · exact .inl (h.trans h2)
      · exact .inr (List.mem_cons.2 (.inl (h.trans h2)))
    · exact .inr (List.mem_cons.2 (.inr h))
/-- What the cheapest way costs from a bed of a column through so many more columns. -/
def restN (c : Nat → Nat → Int) (n : Nat) (big : Int) : Nat → Nat → Nat → Int
  | 0, k, b => c k b
  | m + 1, k, b => c k b + minL big ((nearL n b).map (restN c n big m (k + 1)))
def costP (c : Nat → Nat → Int) : Nat → List Nat → Int
  | _, [] => 0
  | k, b :: t => c k b + costP c (k + 1) t
/-- Is a list of beds a way? -/
def wayB (n : Nat) : List Nat → Prop
  | [] => True
  | b :: t => b < n ∧ (∀ x, t.head? = some x → b ≤ x + 1 ∧ x ≤ b + 1) ∧ wayB n t
theorem rest_le {c : Nat → Nat → Int} {n : Nat} {big : Int} : ∀ (t : List Nat) (k b : Nat), wayB n (b :: t) → restN c n big t.length k b ≤ costP c k (b :: t)
  | [], k, b, _ => by simp [restN, costP]
  | x :: t, k, b, h => by
    obtain ⟨hb, hx, ht⟩ := h
    have ih := rest_le (c := c) (big := big) t (k + 1) x ht
    have hx2 := hx x rfl
    have h1 := (minL_le ((nearL n b).map (restN c n big t.length (k + 1))) big).2 _ (List.mem_map.2 ⟨x, (mem_near hb).2 ⟨ht.1, hx2⟩, rfl⟩)
    simp only [List.length_cons, restN, costP] at ih ⊢
    omega
/-- The best bed of the next column. -/
def stepB (c : Nat → Nat → Int) (n : Nat) (big : Int) (m k b : Nat) : Nat := (nearL n b).foldl (fun best x => if restN c n big m (k + 1) x < restN c n big m (k + 1) best then x else best) b
theorem fold_best {f : Nat → Int} : ∀ (l : List Nat) (b : Nat), (l.foldl (fun best x => if f x < f best then x else best) b = b ∨ l.foldl (fun best x => if f x < f best then x else best) b ∈ l) ∧ f (l.foldl (fun best x => if f x < f best then x else best) b) ≤ f b ∧ ∀ x ∈ l, f (l.foldl (fun best x => if f x < f best then x else best) b) ≤ f x
  | [], b => ⟨.inl rfl, Int.le_refl _, fun x h => by simp at h⟩
  | y :: l, b => by
    rw [List.foldl_cons]
    by_cases hy : f y < f b
    · rw [if_pos hy]
      obtain ⟨h1, h2, h3⟩ := fold_best (f := f) l y
      refine ⟨.inr ?_, by omega, fun x hx => ?_⟩
      · rcases h1 with h1 | h1
        · rw [h1]; exact List.mem_cons_self
        · exact List.mem_cons_of_mem _ h1
      · rcases List.mem_cons.1 hx with rfl | hx
        · exact h2
        · exact h3 x hx
    · rw [if_neg hy]
      obtain ⟨h1, h2, h3⟩ := fold_best (f := f) l b
      refine ⟨?_, h2, fun x hx => ?_⟩
      · rcases h1 with h1 | h1
        · exact .inl h1
        · exact .inr (List.mem_cons_of_mem _ h1)
      · rcases List.mem_cons.1 hx with rfl | hx
        · omega
        · exact h3 x hx
theorem step_mem {c : Nat → Nat → Int} {n : Nat} {big : Int} {m k b : Nat} (hb : b < n) : stepB c n big m k b < n ∧ b ≤ stepB c n big m k b + 1 ∧ stepB c n big m k b ≤ b + 1 := by
  rcases (fold_best (f := restN c n big m (k + 1)) (nearL n b) b).1 with h | h
  · unfold stepB
    rw [h]
    omega
  · exact (mem_near hb).1 h
theorem rest_abs {c : Nat → Nat → Int} {n : Nat} {big B : Int} (hc : ∀ k b, b < n → -B ≤ c k b ∧ c k b ≤ B) (h0 : 0 ≤ B) : ∀ (m k b : Nat), b < n → (m : Int) * B ≤ big → -((m + 1 : Nat) : Int) * B ≤ restN c n big m k b ∧ restN c n big m k b ≤ ((m + 1 : Nat) : Int) * B
  | 0, k, b, hb, _ => by have := hc k b hb; simp [restN]; omega
  | m + 1, k, b, hb, hm => by
    have e1 : ((m + 1 : Nat) : Int) * B = m * B + B := by rw [Int.natCast_add, Int.add_mul]; simp
    have e2 : ((m + 1 + 1 : Nat) : Int) * B = m * B + B + B := by rw [Int.natCast_add, Int.add_mul, e1]; simp
    have hmb : 0 ≤ (m : Int) * B := Int.mul_nonneg (by omega) h0
    have ih := fun x hx => rest_abs (big := big) hc h0 m (k + 1) x hx (by omega)
    have hcb := hc k b hb
    have h1 := (minL_le ((nearL n b).map (restN c n big m (k + 1))) big).2 _ (List.mem_map.2 ⟨b, (mem_near hb).2 (by omega), rfl⟩)
    have h2 := (ih b hb).2
    have h3 : -(m * B + B) ≤ minL big ((nearL n b).map (restN c n big m (k + 1))) := by
      rcases minL_mem ((nearL n b).map (restN c n big m (k + 1))) big with h | h
      · rw [h]; omega
      · obtain ⟨x, hx, hxe⟩ := List.mem_map.1 h
        have := (ih x ((mem_near hb).1 hx).1).1
        rw [Int.neg_mul, e1] at this
        omega
    rw [Int.neg_mul, e2]
    rw [e1] at h2
    simp only [restN]
    omega
theorem rest_step {c : Nat → Nat → Int} {n : Nat} {big B : Int} (hc : ∀ k b, b < n → -B ≤ c k b ∧ c k b ≤ B) (h0 : 0 ≤ B) {m k b : Nat} (hb : b < n) (hm : ((m + 1 : Nat) : Int) * B ≤ big) : restN c n big (m + 1) k b = c k b + restN c n big m (k + 1) (stepB c n big m k b) := by
  have e1 : ((m + 1 : Nat) : Int) * B = m * B + B := by rw [Int.natCast_add, Int.add_mul]; simp
  have hmb : 0 ≤ (m : Int) * B := Int.mul_nonneg (by omega) h0
  simp only [restN]
  congr 1
  obtain ⟨h1, h2, h3⟩ := fold_best (f := restN c n big m (k + 1)) (nearL n b) b
  have hs := step_mem (c := c) (big := big) (m := m) (k := k) hb
  have h4 := (minL_le ((nearL n b).map (restN c n big m (k + 1))) big).2 _ (List.mem_map.2 ⟨stepB c n big m k b, (mem_near hb).2 hs, rfl⟩)
  have h5 := (rest_abs (big := big) hc h0 m (k + 1) b hb (by omega)).2
  rcases minL_mem ((nearL n b).map (restN c n big m (k + 1))) big with h | h
  · have h7 : restN c n big m (k + 1) (stepB c n big m k b) ≤ restN c n big m (k + 1) b := h2
    omega
  · obtain ⟨x, hx, hxe⟩ := List.mem_map.1 h
    have h6 : restN c n big m (k + 1) (stepB c n big m k b) ≤ restN c n big m (k + 1) x := h3 x hx
    omega
/-- The way that the program walks. -/
def pathB (c : Nat → Nat → Int) (n : Nat) (big : Int) : Nat → Nat → Nat → List Nat
  | 0, _, b => [b]
  | m + 1, k, b => b :: pathB c n big m (k + 1) (stepB c n big m k b)
theorem path_len {c : Nat → Nat → Int} {n : Nat} {big : Int} : ∀ (m k b : Nat), (pathB c n big m k b).length = m + 1
  | 0, _, _ => rfl
  | m + 1, k, b => by simp [pathB, path_len m]
theorem path_head {c : Nat → Nat → Int} {n : Nat} {big : Int} : ∀ (m k b : Nat), (pathB c n big m k b).head? = some b
  | 0, _, _ => rfl
  | _ + 1, _, _ => rfl
theorem path_way {c : Nat → Nat → Int} {n : Nat} {big : Int} : ∀ (m k b : Nat), b < n → wayB n (pathB c n big m k b)
  | 0, _, _, h => ⟨h, fun x hx => by simp at hx, trivial⟩
  | m + 1, k, b, h => by
    have hs := step_mem (c := c) (big := big) (m := m) (k := k) h
    refine ⟨h, fun x hx => ?_, path_way m (k + 1) _ hs.1⟩
    rw [path_head] at hx
    injection hx with hx
    omega
theorem path_cost {c : Nat → Nat → Int} {n : Nat} {big B : Int} (hc : ∀ k b, b < n → -B ≤ c k b ∧ c k b ≤ B) (h0 : 0 ≤ B) : ∀ (m k b : Nat), b < n → (m : Int) * B ≤ big → costP c k (pathB c n big m k b) = restN c n big m k b
  | 0, k, b, _, _ => by simp [pathB, costP, restN]
  | m + 1, k, b, hb, hm => by
    have e1 : ((m + 1 : Nat) : Int) * B = m * B + B := by rw [Int.natCast_add, Int.add_mul]; simp
    rw [rest_step hc h0 hb hm]
    simp only [pathB, costP]
    rw [path_cost hc h0 m (k + 1) _ (step_mem hb).1 (by omega)]
/-- The cheapest first bed. -/
def firstB (f : Nat → Int) (big : Int) : Nat → Int × Nat
  | 0 => (big, 0)
  | b + 1 => if f b < (firstB f big b).1 then (f b, b) else firstB f big b
theorem first_is {f : Nat → Int} {big : Int} : ∀ n, (firstB f big n).1 ≤ big ∧ (∀ b, b < n → (firstB f big n).1 ≤ f b) ∧ (firstB f big n = (big, 0) ∨ ((firstB f big n).2 < n ∧ (firstB f big n).1 = f (firstB f big n).2))
  | 0 => ⟨Int.le_refl _, fun b h => by omega, .inl rfl⟩
  | n + 1 => by
    obtain ⟨h1, h2, h3⟩ := first_is (f := f) (big := big) n
    unfold firstB
    by_cases h : f n < (firstB f big n).1
    · rw [if_pos h]
      refine ⟨by show f n ≤ big; omega, fun b hb => ?_, .inr ⟨Nat.lt_succ_self n, rfl⟩⟩
      show f n ≤ f b
      by_cases he : b = n
      · rw [he]; exact Int.le_refl _
      · have := h2 b (by omega); omega
    · rw [if_neg h]
      refine ⟨h1, fun b hb => ?_, ?_⟩
      · by_cases he : b = n
        · rw [he]; omega
        · exact h2 b (by omega)
      · rcases h3 with h3 | h3
        · exact .inl h3
        · exact .inr ⟨by omega, h3.2⟩
/-- The cheapest surface from a column through so many more, and what it costs. -/
def cheapN (c : Nat → Nat → Int) (n : Nat) (big : Int) (m k : Nat) : List Nat × Int := (pathB c n big m k (firstB (restN c n big m k) big n).2, (firstB (restN c n big m k) big n).1)
theorem cheap_is {c : Nat → Nat → Int} {n : Nat} {big B : Int} (hc : ∀ k b, b < n → -B ≤ c k b ∧ c k b ≤ B) (h0 : 0 ≤ B) (hn : 0 < n) {m k : Nat} (hm : ((m + 1 : Nat) : Int) * B < big) :
    (cheapN c n big m k).1.length = m + 1 ∧ wayB n (cheapN c n big m k).1 ∧ costP c k (cheapN c n big m k).1 = (cheapN c n big m k).2 ∧ ∀ l, l.length = m + 1 → wayB n l → (cheapN c n big m k).2 ≤ costP c k l := by
  have e1 : ((m + 1 : Nat) : Int) * B = m * B + B := by rw [Int.natCast_add, Int.add_mul]; simp
  have hmb : 0 ≤ (m : Int) * B := Int.mul_nonneg (by omega) h0
  obtain ⟨h1, h2, h3⟩ := first_is (f := restN c n big m k) (big := big) n
  have hne : firstB (restN c n big m k) big n ≠ (big, 0) := by
    intro e
    have h4 := h2 0 hn
    have h5 := (rest_abs (big := big) hc h0 m k 0 hn (by omega)).2
    rw [e] at h4
    dsimp only at h4
    omega
  obtain ⟨h6, h7⟩ := h3.resolve_left hne
  refine ⟨path_len _ _ _, path_way _ _ _ h6, ?_, fun l hl hw => ?_⟩
  · unfold cheapN
    dsimp only
    rw [path_cost hc h0 m k _ h6 (by omega), h7]
  · cases l with
    | nil => simp at hl
    | cons b t =>
      have h8 := rest_le (c := c) (big := big) t k b hw
      have h9 := h2 b hw.1
      have : t.length = m := by simpa using hl
      rw [this] at h8
      exact Int.le_trans h9 h8
def sumH (h : Nat → Nat → Int) : Nat → List Nat → Int
  | _, [] => 0
  | k, b :: t => h k b + sumH h (k + 1) t
theorem cost_sums {h d : Nat → Nat → Int} {f : Int} : ∀ (l : List Nat) (k : Nat), costP (fun k b => 1000 * h k b - f * d k b) k l = 1000 * sumH h k l - f * sumH d k l
  | [], k => by simp [costP, sumH]
  | b :: t, k => by
    have ih := cost_sums (h := h) (d := d) (f := f) t (k + 1)
    simp only [costP, sumH, Int.mul_add] at ih ⊢
    omega
theorem sumH_nonneg {h : Nat → Nat → Int} (hh : ∀ k b, 0 ≤ h k b) : ∀ (l : List Nat) (k : Nat), 0 ≤ sumH h k l
  | [], k => Int.le_refl _
  | b :: t, k => by
    have := hh k b
    have := sumH_nonneg hh t (k + 1)
    simp only [sumH]
    omega
theorem neg_iff {H D f : Int} (hH : 0 ≤ H) (hf : 0 ≤ f) : 1000 * H - f * D < 0 ↔ 1 ≤ D ∧ 1000 * H / D < f := by
  constructor
  · intro h
    have hD : 1 ≤ D := by
      by_cases h1 : D < 1
      · have : f * D ≤ 0 := Int.mul_nonpos_of_nonneg_of_nonpos hf (by omega)
        omega
      · omega
    refine ⟨hD, ?_⟩
    rw [Int.ediv_lt_iff_lt_mul (by omega)]
    omega
  · rintro ⟨h1, h2⟩
    rw [Int.ediv_lt_iff_lt_mul (by omega)] at h2
    omega
/-- The factor of what holds and what drives. -/
def factorN (H D : Int) : Int := mnI 10000 (1000 * H / D)
theorem factor_lt {H D f : Int} (h : f ≤ 10000) : factorN H D < f ↔ 1000 * H / D < f := by
  unfold factorN mnI
  split <;> omega
theorem factor_bd {H D : Int} (hH : 0 ≤ H) (hD : 1 ≤ D) : 0 ≤ factorN H D ∧ factorN H D ≤ 10000 := by
  have := Int.ediv_nonneg (a := 1000 * H) (b := D) (by omega) (by omega)
  unfold factorN mnI
  split <;> omega
/-- Is a list of beds, from a column, a surface? -/
def SurfB (n cols K k : Nat) (l : List Nat) : Prop := K ≤ l.length ∧ k + l.length ≤ cols ∧ wayB n l
/-- Does some surface cost less than nothing? -/
def LowB (c : Nat → Nat → Int) (n cols K : Nat) : Prop := ∃ k l, SurfB n cols K k l ∧ costP c k l < 0
theorem low_mono {h d : Nat → Nat → Int} {n cols K : Nat} {f g : Int} (hh : ∀ k b, 0 ≤ h k b) (hf : 0 ≤ f) (hg : f ≤ g) (hl : LowB (fun k b => 1000 * h k b - f * d k b) n cols K) : LowB (fun k b => 1000 * h k b - g * d k b) n cols K := by
  obtain ⟨k, l, hs, hc⟩ := hl
  refine ⟨k, l, hs, ?_⟩
  have h0 := sumH_nonneg hh l k
  rw [cost_sums] at hc ⊢
  rw [neg_iff h0 hf] at hc
  rw [neg_iff h0 (by omega)]
  exact ⟨hc.1, by omega⟩
/-- The first number from a on, below a + n, that is right; else a + n. -/
def firstN (p : Nat → Bool) (a : Nat) : Nat → Nat
  | 0 => a
  | n + 1 => if p a then a else firstN p (a + 1) n
theorem firstN_is {p : Nat → Bool} : ∀ (n a : Nat), a ≤ firstN p a n ∧ firstN p a n ≤ a + n ∧ (∀ m, a ≤ m → m < firstN p a n → p m = false) ∧ (firstN p a n < a + n → p (firstN p a n) = true)
  | 0, a => ⟨Nat.le_refl _, Nat.le_refl _, fun m h1 h2 => by simp only [firstN] at h2; omega, fun h => by simp only [firstN] at h; omega⟩
  | n + 1, a => by
    unfold firstN
    cases hp : p a with
    | true =>
      rw [if_pos rfl]
      exact ⟨Nat.le_refl _, by omega, fun m h1 h2 => by omega, fun _ => hp⟩
    | false =>
      rw [if_neg (by decide)]
      obtain ⟨h1, h2, h3, h4⟩ := firstN_is (p := p) n (a + 1)
      refine ⟨by omega, by omega, fun m hm1 hm2 => ?_, fun h => h4 (by omega)⟩
      by_cases he : m = a
      · rw [he]; exact hp
      · exact h3 m (by omega) hm2
theorem firstN_unique {p : Nat → Bool} {a n L : Nat} (h1 : a ≤ L) (h2 : L ≤ a + n) (h3 : ∀ m, a ≤ m → m < L → p m = false) (h4 : L < a + n → p L = true) : L = firstN p a n := by
  obtain ⟨g1, g2, g3, g4⟩ := firstN_is (p := p) n a
  rcases Nat.lt_trichotomy L (firstN p a n) with h | h | h
  · have := g3 L h1 h
    rw [h4 (by omega)] at this
    cases this
  · exact h
  · have := h3 _ g1 h
    rw [g4 (by omega)] at this
    cases this
/-- The first cheap surface from a column, through m further columns or more. -/
def lowIn (c : Nat → Nat → Int) (n : Nat) (big : Int) (k : Nat) : Nat → Nat → Option (List Nat)
  | _, 0 => none
  | m, j + 1 => if (cheapN c n big m k).2 < 0 then some (cheapN c n big m k).1 else lowIn c n big k (m + 1) j
/-- The first cheap surface. -/
def lowS (c : Nat → Nat → Int) (n : Nat) (big : Int) (cols K : Nat) : Nat → Nat → Option (Nat × List Nat)
  | _, 0 => none
  | k, j + 1 => match lowIn c n big k (K - 1) (cols - (k + (K - 1))) with
    | some l => some (k, l)
    | none => lowS c n big cols K (k + 1) j
section
variable {c : Nat → Nat → Int} {n cols K : Nat} {big B : Int}
theorem lowIn_is (hc : ∀ k b, b < n → -B ≤ c k b ∧ c k b ≤ B) (h0 : 0 ≤ B) (hn : 0 < n) (k : Nat) : ∀ (j m : Nat), ((m + j : Nat) : Int) * B < big →
    (lowIn c n big k m j = none → ∀ i l, i < j → l.length = m + i + 1 → wayB n l → 0 ≤ costP c k l) ∧ (∀ l, lowIn c n big k m j = some l → ∃ i, i < j ∧ l.length = m + i + 1 ∧ wayB n l ∧ costP c k l < 0)
  | 0, m, _ => ⟨fun _ i l h => by omega, fun l h => by simp [lowIn] at h⟩
  | j + 1, m, hb => by
    have e1 : ((m + 1 : Nat) : Int) * B ≤ ((m + (j + 1) : Nat) : Int) * B := Int.mul_le_mul_of_nonneg_right (by omega) h0
    obtain ⟨g1, g2, g3, g4⟩ := cheap_is (big := big) hc h0 hn (m := m) (k := k) (by omega)
    obtain ⟨i1, i2⟩ := lowIn_is hc h0 hn k j (m + 1) (by rw [show m + 1 + j = m + (j + 1) by omega]; exact hb)
    unfold lowIn
    by_cases h : (cheapN c n big m k).2 < 0
    · rw [if_pos h]
      refine ⟨fun h => by simp at h, fun l hl => ⟨0, by omega, ?_⟩⟩
      injection hl with hl
      subst hl
      exact ⟨by omega, g2, by omega⟩
    · rw [if_neg h]
      refine ⟨fun hl i l hi hlen hw => ?_, fun l hl => ?_⟩
      · by_cases he : i = 0
        · subst he
          have := g4 l (by omega) hw
          omega
        · exact i1 hl (i - 1) l (by omega) (by omega) hw
      · obtain ⟨i, q1, q2, q3⟩ := i2 l hl
        exact ⟨i + 1, by omega, by omega, q3⟩
theorem lowS_is (hc : ∀ k b, b < n → -B ≤ c k b ∧ c k b ≤ B) (h0 : 0 ≤ B) (hn : 0 < n) (hK : 1 ≤ K) (hb : ((cols + K : Nat) : Int) * B < big) : ∀ (j k : Nat), k + j = cols →
    (lowS c n big cols K k j = none → ∀ x l, k ≤ x → SurfB n cols K x l → 0 ≤ costP c x l) ∧ (∀ x l, lowS c n big cols K k j = some (x, l) → SurfB n cols K x l ∧ costP c x l < 0)
  | 0, k, hk => ⟨fun _ x l hx hs => by have := hs.1; have := hs.2.1; omega, fun x l h => by simp [lowS] at h⟩
  | j + 1, k, hk => by
    have e1 : ((K - 1 + (cols - (k + (K - 1))) : Nat) : Int) * B ≤ ((cols + K : Nat) : Int) * B := Int.mul_le_mul_of_nonneg_right (by omega) h0
    obtain ⟨g1, g2⟩ := lowIn_is (big := big) hc h0 hn k (cols - (k + (K - 1))) (K - 1) (by omega)
    obtain ⟨i1, i2⟩ := lowS_is hc h0 hn hK hb j (k + 1) (by omega)
    unfold lowS
    cases hl : lowIn c n big k (K - 1) (cols - (k + (K - 1))) with
    | some l =>
      refine ⟨fun h => by simp at h, fun x l' h => ?_⟩
      simp only [Option.some.injEq, Prod.mk.injEq] at h
      obtain ⟨rfl, rfl⟩ := h
      obtain ⟨i, q1, q2, q3, q4⟩ := g2 l hl
      exact ⟨⟨by omega, by omega, q3⟩, q4⟩
    | none =>
      refine ⟨fun h x l hx hs => ?_, fun x l h => i2 x l h⟩
      by_cases he : x = k
      · subst he
        have h1 := hs.1
        have h2 := hs.2.1
        exact g1 hl (l.length - K) l (by omega) (by omega) hs.2.2
      · exact i1 h x l (by omega) hs
theorem lowS_iff (hc : ∀ k b, b < n → -B ≤ c k b ∧ c k b ≤ B) (h0 : 0 ≤ B) (hn : 0 < n) (hK : 1 ≤ K) (hb : ((cols + K : Nat) : Int) * B < big) : (lowS c n big cols K 0 cols).isSome = true ↔ LowB c n cols K := by
  obtain ⟨h1, h2⟩ := lowS_is (cols := cols) hc h0 hn hK hb cols 0 (by omega)
  constructor
  · intro h
    obtain ⟨⟨x, l⟩, hx⟩ := Option.isSome_iff_exists.1 h
    exact ⟨x, l, h2 x l hx⟩
  · rintro ⟨x, l, hs, hcs⟩
    cases hl : lowS c n big cols K 0 cols with
    | some _ => rfl
    | none =>
      have := h1 hl x l (Nat.zero_le _) hs
      omega
/-- Does a column lie in a surface that costs less than nothing? -/
def moveB (c : Nat → Nat → Int) (n : Nat) (big : Int) (cols K x : Nat) : Bool := (List.range cols).any fun k => (List.range (cols - (k + (K - 1)))).any fun j => decide ((cheapN c n big (K - 1 + j) k).2 < 0) && (decide (k ≤ x) && decide (x ≤ k + (K - 1) + j))
theorem moveB_iff (hc : ∀ k b, b < n → -B ≤ c k b ∧ c k b ≤ B) (h0 : 0 ≤ B) (hn : 0 < n) (hK : 1 ≤ K) (hb : ((cols + K : Nat) : Int) * B < big) {x : Nat} : moveB c n big cols K x = true ↔ ∃ k l, SurfB n cols K k l ∧ costP c k l < 0 ∧ k ≤ x ∧ x < k + l.length := by
  unfold moveB
  simp only [List.any_eq_true, List.mem_range, Bool.and_eq_true, decide_eq_true_eq]
  have hch : ∀ m k, m + 1 ≤ cols + K → _ := fun m k hm => cheap_is (big := big) hc h0 hn (m := m) (k := k) (by
    have : ((m + 1 : Nat) : Int) * B ≤ ((cols + K : Nat) : Int) * B := Int.mul_le_mul_of_nonneg_right (by omega) h0
    omega)
  constructor
  · rintro ⟨k, hk, j, hj, h1, h2, h3⟩
    obtain ⟨g1, g2, g3, _⟩ := hch (K - 1 + j) k (by omega)
    exact ⟨k, _, ⟨by omega, by omega, g2⟩, by omega, h2, by omega⟩
  · rintro ⟨k, l, hs, hcs, h2, h3⟩
    have e1 := hs.1
    have e2 := hs.2.1
    obtain ⟨_, _, _, g4⟩ := hch (K - 1 + (l.length - K)) k (by omega)
    have := g4 l (by omega) hs.2.2
    exact ⟨k, by omega, l.length - K, by omega, by omega, h2, by omega⟩
end
abbrev bigN : Int := 1000000000000000
def cF (h d : Nat → Nat → Int) (f : Int) : Nat → Nat → Int := fun k b => 1000 * h k b - f * d k b
/-- What holds and what drives is not much. -/
structure HdOk (h d : Nat → Nat → Int) (n cols K : Nat) : Prop where
  h0 : ∀ k b, 0 ≤ h k b
  h1 : ∀ k b, h k b ≤ 300000
  d0 : ∀ k b, -100000 ≤ d k b
  d1 : ∀ k b, d k b ≤ 100000
  n0 : 0 < n
  K0 : 1 ≤ K
  few : cols + K ≤ 1000
section
variable {h d : Nat → Nat → Int} {n cols K : Nat} {f g : Int}
theorem cF_bd (ok : HdOk h d n cols K) (f0 : 0 ≤ f) (f1 : f ≤ 10001) (k b : Nat) : -1300100000 ≤ cF h d f k b ∧ cF h d f k b ≤ 1300100000 := by
  have a1 := ok.h0 k b
  have a2 := ok.h1 k b
  have a3 := Int.mul_le_mul_of_nonneg_left (ok.d1 k b) f0
  have a4 := Int.mul_le_mul_of_nonneg_left (ok.d0 k b) f0
  unfold cF
  omega
def lowF (h d : Nat → Nat → Int) (n cols K : Nat) (f : Int) : Option (Nat × List Nat) := lowS (cF h d f) n bigN cols K 0 cols
theorem few_big (ok : HdOk h d n cols K) : ((cols + K : Nat) : Int) * 1300100000 < bigN := by
  have := ok.few
  show ((cols + K : Nat) : Int) * 1300100000 < 1000000000000000
  omega
theorem lowF_iff (ok : HdOk h d n cols K) (f0 : 0 ≤ f) (f1 : f ≤ 10001) : (lowF h d n cols K f).isSome = true ↔ ∃ k l, SurfB n cols K k l ∧ 1 ≤ sumH d k l ∧ 1000 * sumH h k l / sumH d k l < f := by
  unfold lowF
  rw [lowS_iff (B := 1300100000) (fun k b _ => cF_bd ok f0 f1 k b) (by omega) ok.n0 ok.K0 (few_big ok)]
  unfold LowB
  refine exists_congr fun k => exists_congr fun l => and_congr_right fun _ => ?_
  unfold cF
  rw [cost_sums, neg_iff (sumH_nonneg ok.h0 l k) f0]
theorem lowF_none (ok : HdOk h d n cols K) (f0 : 0 ≤ f) (f1 : f ≤ 10001) (hl : lowF h d n cols K f = none) {k : Nat} {l : List Nat} (hs : SurfB n cols K k l) (hd : 1 ≤ sumH d k l) : f ≤ 1000 * sumH h k l / sumH d k l := by
  by_cases hlt : 1000 * sumH h k l / sumH d k l < f
  · have := (lowF_iff ok f0 f1).2 ⟨k, l, hs, hd, hlt⟩
    rw [hl] at this
    cases this
  · omega
theorem lowF_some (ok : HdOk h d n cols K) (f0 : 0 ≤ f) (f1 : f ≤ 10001) {k : Nat} {l : List Nat} (hl : lowF h d n cols K f = some (k, l)) : SurfB n cols K k l ∧ 1 ≤ sumH d k l ∧ 1000 * sumH h k l / sumH d k l < f := by
  obtain ⟨h1, h2⟩ := (lowS_is (B := 1300100000) (fun k b _ => cF_bd ok f0 f1 k b) (by omega) ok.n0 ok.K0 (few_big ok) cols 0 (by omega)).2 k l hl
  unfold cF at h2
  rw [cost_sums, neg_iff (sumH_nonneg ok.h0 l k) f0] at h2
  exact ⟨h1, h2⟩
theorem lowF_mono (ok : HdOk h d n cols K) (f0 : 0 ≤ f) (hg : f ≤ g) (g1 : g ≤ 10001) (hl : (lowF h d n cols K f).isSome = true) : (lowF h d n cols K g).isSome = true := by
  rw [lowF_iff ok f0 (by omega)] at hl
  rw [lowF_iff ok (by omega) g1]
  obtain ⟨k, l, h1, h2, h3⟩ := hl
  exact ⟨k, l, h1, h2, by omega⟩
/-- The least factor for which some surface is lower; 10001: there is none. -/
def worstL (h d : Nat → Nat → Int) (n cols K : Nat) : Nat := firstN (fun f => (lowF h d n cols K f).isSome) 1 10000
def worstR (h d : Nat → Nat → Int) (n cols K : Nat) : Option ((Nat × List Nat) × Int) :=
  if worstL h d n cols K ≤ 10000 then (lowF h d n cols K (worstL h d n cols K)).map fun u => (u, (worstL h d n cols K : Int) - 1)
  else (lowF (fun _ _ => 0) d n cols K 1).map fun u => (u, 10000)
theorem zero_ok (ok : HdOk h d n cols K) : HdOk (fun _ _ => 0) d n cols K := ⟨fun _ _ => Int.le_refl _, fun _ _ => by omega, ok.d0, ok.d1, ok.n0, ok.K0, ok.few⟩
theorem worst_some (ok : HdOk h d n cols K) {k : Nat} {l : List Nat} {v : Int} (hw : worstR h d n cols K = some ((k, l), v)) :
    SurfB n cols K k l ∧ 1 ≤ sumH d k l ∧ factorN (sumH h k l) (sumH d k l) = v ∧ ∀ x m, SurfB n cols K x m → 1 ≤ sumH d x m → v ≤ factorN (sumH h x m) (sumH d x m) := by
  obtain ⟨g1, g2, g3, g4⟩ := firstN_is (p := fun f => (lowF h d n cols K f).isSome) 10000 1
  unfold worstR at hw
  unfold worstL at hw
  obtain ⟨L, hL⟩ : ∃ L, L = firstN (fun f => (lowF h d n cols K f).isSome) 1 10000 := ⟨_, rfl⟩
  rw [← hL] at hw g1 g2 g3 g4
  by_cases hle : L ≤ 10000
  · rw [if_pos hle, Option.map_eq_some_iff] at hw
    obtain ⟨u, hu, he⟩ := hw
    simp only [Prod.mk.injEq] at he
    obtain ⟨rfl, rfl⟩ := he
    obtain ⟨a1, a2, a3⟩ := lowF_some ok (by omega) (by omega) hu
    have low : ∀ x m, SurfB n cols K x m → 1 ≤ sumH d x m → (L : Int) - 1 ≤ 1000 * sumH h x m / sumH d x m := by
      intro x m hs hd
      by_cases h1 : L = 1
      · have := Int.ediv_nonneg (a := 1000 * sumH h x m) (b := sumH d x m) (by have := sumH_nonneg ok.h0 m x; omega) (by omega)
        omega
      · have h2 := g3 (L - 1) (by omega) (by omega)
        have h3 : lowF h d n cols K ((L - 1 : Nat) : Int) = none := by
          cases hq : lowF h d n cols K ((L - 1 : Nat) : Int) with
          | none => rfl
          | some q => rw [hq] at h2; cases h2
        have h4 := lowF_none ok (by omega) (by omega) h3 hs hd
        omega
    refine ⟨a1, a2, ?_, fun x m hs hd => ?_⟩
    · have := low k l a1 a2
      unfold factorN mnI
      split <;> omega
    · have := low x m hs hd
      unfold factorN mnI
      split <;> omega
  · rw [if_neg hle, Option.map_eq_some_iff] at hw
    obtain ⟨u, hu, he⟩ := hw
    simp only [Prod.mk.injEq] at he
    obtain ⟨rfl, rfl⟩ := he
    obtain ⟨a1, a2, a3⟩ := lowF_some (zero_ok ok) (by omega) (by omega) hu
    have low : ∀ x m, SurfB n cols K x m → 1 ≤ sumH d x m → factorN (sumH h x m) (sumH d x m) = 10000 := by
      intro x m hs hd
      have h2 := g3 10000 (by omega) (by omega)
      have h3 : lowF h d n cols K ((10000 : Nat) : Int) = none := by
        cases hq : lowF h d n cols K ((10000 : Nat) : Int) with
        | none => rfl
        | some q => rw [hq] at h2; cases h2
      have h4 := lowF_none ok (by omega) (by omega) h3 hs hd
      unfold factorN mnI
      split <;> omega
    exact ⟨a1, a2, low k l a1 a2, fun x m hs hd => by rw [low x m hs hd]; exact Int.le_refl _⟩
theorem worst_none (ok : HdOk h d n cols K) (hw : worstR h d n cols K = none) : ∀ x m, SurfB n cols K x m → ¬ (1 ≤ sumH d x m) := by
  obtain ⟨g1, g2, g3, g4⟩ := firstN_is (p := fun f => (lowF h d n cols K f).isSome) 10000 1
  intro x m hs hd
  unfold worstR at hw
  unfold worstL at hw
  obtain ⟨L, hL⟩ : ∃ L, L = firstN (fun f => (lowF h d n cols K f).isSome) 1 10000 := ⟨_, rfl⟩
  rw [← hL] at hw g1 g2 g3 g4
  by_cases hle : L ≤ 10000
  · rw [if_pos hle, Option.map_eq_none_iff] at hw
    have := g4 (by omega)
    rw [hw] at this
    cases this
  · rw [if_neg hle, Option.map_eq_none_iff] at hw
    have h0 : ∀ (l : List Nat) (k : Nat), sumH (fun _ _ => (0 : Int)) k l = 0 := by
      intro l
      induction l with
      | nil => intro k; rfl
      | cons b t ih => intro k; simp only [sumH]; have := ih (k + 1); omega
    have h4 := lowF_none (zero_ok ok) (by omega) (by omega) hw hs hd
    rw [h0] at h4
    simp at h4
/-- Something is lower than a factor just if the least one is. -/
theorem low_worst (ok : HdOk h d n cols K) (f0 : 0 ≤ f) (f1 : f ≤ 10000) : (lowF h d n cols K f).isSome = true ↔ ∃ u v, worstR h d n cols K = some (u, v) ∧ v < f := by
  constructor
  · intro hl
    obtain ⟨k, l, h1, h2, h3⟩ := (lowF_iff ok f0 (by omega)).1 hl
    cases hw : worstR h d n cols K with
    | none => exact absurd h2 (worst_none ok hw k l h1)
    | some z =>
      obtain ⟨⟨k', l'⟩, v⟩ := z
      refine ⟨_, _, rfl, ?_⟩
      have h4 := (worst_some ok hw).2.2.2 k l h1 h2
      have h5 := (factor_lt f1).2 h3
      omega
  · rintro ⟨⟨k, l⟩, v, hw, hv⟩
    obtain ⟨h1, h2, h3, _⟩ := worst_some ok hw
    rw [lowF_iff ok f0 (by omega)]
    refine ⟨k, l, h1, h2, ?_⟩
    rw [← factor_lt f1, h3]
    exact hv
end
section
variable {h d h' d' : Nat → Nat → Int} {n cols K n' cols' K' : Nat} {f g : Int}
theorem worst_none_iff (ok : HdOk h d n cols K) : worstR h d n cols K = none ↔ ∀ x m, SurfB n cols K x m → ¬ (1 ≤ sumH d x m) := by
  refine ⟨worst_none ok, fun h1 => ?_⟩
  cases hw : worstR h d n cols K with
  | none => rfl
  | some z =>
    obtain ⟨⟨k, l⟩, v⟩ := z
    obtain ⟨a1, a2, _⟩ := worst_some ok hw
    exact absurd a2 (h1 k l a1)
/-- Where each surface that drives has one beside it that has no greater factor, the least factor is not greater. -/
theorem worst_le (ok : HdOk h d n cols K) (ok' : HdOk h' d' n' cols' K') (hs : ∀ k l, SurfB n cols K k l → 1 ≤ sumH d k l → SurfB n' cols' K' k l ∧ 1 ≤ sumH d' k l ∧ factorN (sumH h' k l) (sumH d' k l) ≤ factorN (sumH h k l) (sumH d k l))
    {u : Nat × List Nat} {v : Int} (hw : worstR h d n cols K = some (u, v)) : ∃ u' v', worstR h' d' n' cols' K' = some (u', v') ∧ v' ≤ v := by
  obtain ⟨k, l⟩ := u
  obtain ⟨a1, a2, a3, _⟩ := worst_some ok hw
  obtain ⟨b1, b2, b3⟩ := hs k l a1 a2
  cases hw' : worstR h' d' n' cols' K' with
  | none => exact absurd b2 (worst_none ok' hw' k l b1)
  | some z =>
    obtain ⟨⟨k', l'⟩, v'⟩ := z
    have := (worst_some ok' hw').2.2.2 k l b1 b2
    exact ⟨_, _, rfl, by omega⟩
theorem sumH_le (hh : ∀ k b, h k b ≤ h' k b) : ∀ (l : List Nat) (k : Nat), sumH h k l ≤ sumH h' k l
  | [], _ => Int.le_refl _
  | b :: t, k => by
    have := hh k b
    have := sumH_le hh t (k + 1)
    simp only [sumH]
    omega
theorem sumH_cut (hh : ∀ k b, k < cols → h k b = h' k b) : ∀ (l : List Nat) (k : Nat), k + l.length ≤ cols → sumH h k l = sumH h' k l
  | [], _, _ => rfl
  | b :: t, k, hk => by
    simp only [List.length_cons] at hk
    have h1 := hh k b (by omega)
    have h2 := sumH_cut hh t (k + 1) (by omega)
    simp only [sumH]
    omega
theorem factor_le {H D H' D' : Int} (h0 : 0 ≤ H') (h1 : H' ≤ H) (hd : 1 ≤ D) (h2 : D ≤ D') : factorN H' D' ≤ factorN H D := by
  have e1 : 1000 * H' / D' ≤ 1000 * H / D := by
    rw [Int.le_ediv_iff_mul_le (by omega)]
    have a1 := Int.ediv_mul_le (1000 * H') (b := D') (by omega)
    have a2 : 1000 * H' / D' * D ≤ 1000 * H' / D' * D' := Int.mul_le_mul_of_nonneg_left h2 (Int.ediv_nonneg (by omega) (by omega))
    omega
  unfold factorN mnI
  split <;> split <;> omega
/-- What is less strong, or drives more, has no greater least factor. -/
theorem worst_weak (ok : HdOk h d n cols K) (ok' : HdOk h' d' n cols K) (hh : ∀ k b, h' k b ≤ h k b) (hd : ∀ k b, d k b ≤ d' k b) {u : Nat × List Nat} {v : Int} (hw : worstR h d n cols K = some (u, v)) : ∃ u' v', worstR h' d' n cols K = some (u', v') ∧ v' ≤ v :=
  worst_le ok ok' (fun k l hs h1 => ⟨hs, Int.le_trans h1 (sumH_le hd l k), factor_le (sumH_nonneg ok'.h0 l k) (sumH_le hh l k) h1 (sumH_le hd l k)⟩) hw
theorem low_weak (ok : HdOk h d n cols K) (ok' : HdOk h' d n cols K) (hh : ∀ k b, h' k b ≤ h k b) (f0 : 0 ≤ f) (f1 : f ≤ 10001) (hl : (lowF h d n cols K f).isSome = true) : (lowF h' d n cols K f).isSome = true := by
  rw [lowF_iff ok f0 f1] at hl
  rw [lowF_iff ok' f0 f1]
  obtain ⟨k, l, a1, a2, a3⟩ := hl
  refine ⟨k, l, a1, a2, ?_⟩
  have h1 := sumH_le hh l k
  rw [Int.ediv_lt_iff_lt_mul (by omega)] at a3 ⊢
  omega
/-- How much more water a slope bears. -/
def marginN (hw : Nat → Nat → Nat → Int) (d : Nat → Nat → Int) (n cols K : Nat) (f : Int) : Nat := firstN (fun m => (lowF (hw (m + 1)) d n cols K f).isSome) 0 100000
theorem margin_is {hw : Nat → Nat → Nat → Int} (hl : lowF (hw 0) d n cols K f = none) :
    marginN hw d n cols K f ≤ 100000 ∧ lowF (hw (marginN hw d n cols K f)) d n cols K f = none ∧ (marginN hw d n cols K f < 100000 → (lowF (hw (marginN hw d n cols K f + 1)) d n cols K f).isSome = true) := by
  obtain ⟨g1, g2, g3, g4⟩ := firstN_is (p := fun m => (lowF (hw (m + 1)) d n cols K f).isSome) 100000 0
  unfold marginN
  obtain ⟨L, hL⟩ : ∃ L, L = firstN (fun m => (lowF (hw (m + 1)) d n cols K f).isSome) 0 100000 := ⟨_, rfl⟩
  rw [← hL] at g1 g2 g3 g4 ⊢
  refine ⟨by omega, ?_, fun h => g4 (by omega)⟩
  cases L with
  | zero => exact hl
  | succ L =>
    have := g3 L (Nat.zero_le _) (Nat.lt_succ_self L)
    cases hq : lowF (hw (L + 1)) d n cols K f with
    | none => rfl
    | some q => rw [hq] at this; cases this
theorem margin_unique {hw : Nat → Nat → Nat → Int} (ok : ∀ m, HdOk (hw m) d n cols K) (ha : ∀ m k b, hw (m + 1) k b ≤ hw m k b) (f0 : 0 ≤ f) (f1 : f ≤ 10001) {m : Nat} (h1 : m ≤ 100000) (h2 : lowF (hw m) d n cols K f = none) (h3 : m < 100000 → (lowF (hw (m + 1)) d n cols K f).isSome = true) : m = marginN hw d n cols K f := by
  have up : ∀ i j, (lowF (hw j) d n cols K f).isSome = true → (lowF (hw (j + i)) d n cols K f).isSome = true := by
    intro i
    induction i with
    | zero => exact fun j h => h
    | succ i ih => exact fun j h => low_weak (ok (j + i)) (ok (j + i + 1)) (ha (j + i)) f0 f1 (ih j h)
  refine firstN_unique (Nat.zero_le _) (by omega) (fun j _ hj => ?_) (fun h => h3 (by omega))
  cases hq : (lowF (hw (j + 1)) d n cols K f).isSome with
  | false => rfl
  | true =>
    have := up (m - (j + 1)) (j + 1) hq
    rw [show j + 1 + (m - (j + 1)) = m by omega, h2] at this
    cases this
end
theorem mn_le (a b : Int) : mnI a b ≤ a ∧ mnI a b ≤ b := by unfold mnI; split <;> omega
theorem mn_or (a b : Int) : mnI a b = a ∨ mnI a b = b := by unfold mnI; split <;> simp
def behindN (big : Int) (n : Nat) (row : Nat → Int) (b : Nat) : Int := minL big ((nearL n b).map row)
/-- Is a number of a table right? -/
def cellT (c : Nat → Nat → Int) (big : Int) (n K : Nat) (t : Nat → Nat → Nat → Int) (r k b : Nat) : Prop :=
  (r = 0 → t r k b ≤ c k b) ∧ (0 < r → 0 < k → t r k b ≤ c k b + behindN big n (t (r - 1) (k - 1)) b) ∧ (r = K - 1 → 0 < k → t r k b ≤ c k b + behindN big n (t r (k - 1)) b) ∧ (r = K - 1 → K - 1 ≤ k → 0 ≤ t r k b)
def provesT (c : Nat → Nat → Int) (big : Int) (n cols K : Nat) (t : Nat → Nat → Nat → Int) : Prop := ∀ r k b, r < K → k < cols → b < n → cellT c big n K t r k b
theorem behind_le {big : Int} {n : Nat} {row : Nat → Int} {b x : Nat} (hx : x < n) (hb : b < n) (h1 : b ≤ x + 1) (h2 : x ≤ b + 1) : behindN big n row x ≤ row b :=
  (minL_le ((nearL n x).map row) big).2 _ (List.mem_map.2 ⟨b, (mem_near hx).2 ⟨hb, h2, h1⟩, rfl⟩)
section
variable {c : Nat → Nat → Int} {n cols K : Nat} {big B far : Int} {t : Nat → Nat → Nat → Int}
theorem table_way (hp : provesT c big n cols K t) (hK : 1 ≤ K) : ∀ (l : List Nat) (r k b : Nat) (S : Int), r < K → wayB n (b :: l) → k + l.length < cols → t r k b ≤ S →
    ∃ x, x < n ∧ t (min (r + l.length) (K - 1)) (k + l.length) x ≤ S + costP c (k + 1) l
  | [], r, k, b, S, hr, hw, hk, hS => ⟨b, hw.1, by simp only [List.length_nil, costP, Nat.add_zero, Int.add_zero]; rw [Nat.min_eq_left (by omega)]; exact hS⟩
  | x :: l, r, k, b, S, hr, hw, hk, hS => by
    obtain ⟨hb, hx, hw2⟩ := hw
    have hn := hx x rfl
    simp only [List.length_cons] at hk ⊢
    have hstep : t (min (r + 1) (K - 1)) (k + 1) x ≤ S + c (k + 1) x := by
      by_cases hl : r < K - 1
      · rw [Nat.min_eq_left (by omega)]
        have h1 := (hp (r + 1) (k + 1) x (by omega) (by omega) hw2.1).2.1 (by omega) (by omega)
        rw [Nat.add_sub_cancel, Nat.add_sub_cancel] at h1
        have h2 := behind_le (big := big) (row := t r k) hw2.1 hb hn.1 hn.2
        omega
      · obtain rfl : r = K - 1 := by omega
        rw [Nat.min_eq_right (by omega)]
        have h1 := (hp (K - 1) (k + 1) x (by omega) (by omega) hw2.1).2.2.1 rfl (by omega)
        rw [Nat.add_sub_cancel] at h1
        have h2 := behind_le (big := big) (row := t (K - 1) k) hw2.1 hb hn.1 hn.2
        omega
    obtain ⟨y, hy, h3⟩ := table_way hp hK l (min (r + 1) (K - 1)) (k + 1) x (S + c (k + 1) x) (by omega) hw2 (by omega) hstep
    refine ⟨y, hy, ?_⟩
    rw [show min (min (r + 1) (K - 1) + l.length) (K - 1) = min (r + (l.length + 1)) (K - 1) by omega, show k + 1 + l.length = k + (l.length + 1) by omega] at h3
    simp only [costP]
    omega
/-- A table proves that no surface costs less than nothing. -/
theorem table_low (hp : provesT c big n cols K t) (hK : 1 ≤ K) {k : Nat} {l : List Nat} (hs : SurfB n cols K k l) : 0 ≤ costP c k l := by
  obtain ⟨h1, h2, h3⟩ := hs
  cases l with
  | nil => simp at h1; omega
  | cons b l =>
    simp only [List.length_cons] at h1 h2
    have h4 := (hp 0 k b (by omega) (by omega) h3.1).1 rfl
    obtain ⟨x, hx, h5⟩ := table_way hp hK l 0 k b (c k b) (by omega) h3 (by omega) h4
    rw [show min (0 + l.length) (K - 1) = K - 1 by omega] at h5
    have h6 := (hp (K - 1) (k + l.length) x (by omega) (by omega) hx).2.2.2 rfl (by omega)
    simp only [costP]
    omega
theorem cost_snoc : ∀ (l : List Nat) (k x : Nat), costP c k (l ++ [x]) = costP c k l + c (k + l.length) x
  | [], k, x => by simp [costP]
  | b :: l, k, x => by
    have ih := cost_snoc l (k + 1) x
    simp only [List.cons_append, costP, List.length_cons]
    rw [ih, show k + 1 + l.length = k + (l.length + 1) by omega]
    omega
theorem way_snoc : ∀ (l : List Nat) (x : Nat), x < n → wayB n l → (∀ y, l.getLast? = some y → y ≤ x + 1 ∧ x ≤ y + 1) → wayB n (l ++ [x])
  | [], x, hx, _, _ => ⟨hx, fun y hy => by simp at hy, trivial⟩
  | [b], x, hx, hw, hl => by
    have := hl b rfl
    exact ⟨hw.1, fun y hy => by simp at hy; omega, hx, fun y hy => by simp at hy, trivial⟩
  | b :: b' :: l, x, hx, hw, hl => by
    refine ⟨hw.1, fun y hy => hw.2.1 y (by simpa using hy), ?_⟩
    exact way_snoc (b' :: l) x hx hw.2.2 fun y hy => hl y (by rw [List.getLast?_cons_cons]; exact hy)
/-- The rows of the program's table. -/
def rowT (c : Nat → Nat → Int) (big far : Int) (n K : Nat) (prev : Nat → Nat → Int) (r : Nat) : Nat → Nat → Int
  | 0, b => c 0 b + (if r = 0 then 0 else far)
  | k + 1, b => c (k + 1) b + (if r = K - 1 then mnI (if r = 0 then 0 else behindN big n (prev k) b) (behindN big n (rowT c big far n K prev r k) b) else (if r = 0 then 0 else behindN big n (prev k) b))
def tabT (c : Nat → Nat → Int) (big far : Int) (n K : Nat) : Nat → Nat → Nat → Int
  | 0 => rowT c big far n K (fun _ _ => 0) 0
  | r + 1 => rowT c big far n K (tabT c big far n K r) (r + 1)
/-- A number is what some way costs that ends there, or a great one. -/
def RealT (c : Nat → Nat → Int) (B far : Int) (n K r k b : Nat) (v : Int) : Prop :=
  (∃ k0 l, wayB n l ∧ k0 + l.length = k + 1 ∧ l.getLast? = some b ∧ (r < K - 1 → l.length = r + 1) ∧ (r = K - 1 → K ≤ l.length) ∧ costP c k0 l = v) ∨ (far - ((k + 1 : Nat) : Int) * B ≤ v ∧ v ≤ far + ((k + 1 : Nat) : Int) * B)
theorem behind_mem {row : Nat → Int} {b : Nat} (hb : b < n) (hr : row b ≤ big) : ∃ x, x < n ∧ b ≤ x + 1 ∧ x ≤ b + 1 ∧ behindN big n row b = row x := by
  unfold behindN
  rcases minL_mem ((nearL n b).map row) big with h | h
  · have h2 := (minL_le ((nearL n b).map row) big).2 _ (List.mem_map.2 ⟨b, (mem_near hb).2 (by omega), rfl⟩)
    exact ⟨b, hb, by omega, by omega, by omega⟩
  · obtain ⟨x, hx, he⟩ := List.mem_map.1 h
    obtain ⟨h1, h2, h3⟩ := (mem_near hb).1 hx
    exact ⟨x, h1, h2, h3, he.symm⟩
theorem cost_abs (hc : ∀ k b, -B ≤ c k b ∧ c k b ≤ B) : ∀ (l : List Nat) (k : Nat), -((l.length : Nat) : Int) * B ≤ costP c k l ∧ costP c k l ≤ ((l.length : Nat) : Int) * B
  | [], k => by simp [costP]
  | b :: l, k => by
    have h1 := hc k b
    have h2 := cost_abs hc l (k + 1)
    have e1 : ((l.length + 1 : Nat) : Int) * B = l.length * B + B := by rw [Int.natCast_add, Int.add_mul]; simp
    simp only [List.length_cons, costP]
    rw [Int.neg_mul] at h2 ⊢
    omega
theorem real_bd (hc : ∀ k b, -B ≤ c k b ∧ c k b ≤ B) (h0 : 0 ≤ B) {r k b : Nat} {v : Int} (hf : 0 ≤ far) (hk : ((k + 1 : Nat) : Int) * B + far ≤ big) (h : RealT c B far n K r k b v) : -big ≤ v ∧ v ≤ big := by
  rcases h with ⟨k0, l, _, h2, _, _, _, h3⟩ | h
  · have h4 := cost_abs hc l k0
    have h5 : (l.length : Int) * B ≤ ((k + 1 : Nat) : Int) * B := Int.mul_le_mul_of_nonneg_right (by omega) h0
    rw [Int.neg_mul] at h4
    omega
  · have : 0 ≤ ((k + 1 : Nat) : Int) * B := Int.mul_nonneg (by omega) h0
    omega
theorem real_step (hc : ∀ k b, -B ≤ c k b ∧ c k b ≤ B) {r r' k b x : Nat} {v : Int} (hb : b < n) (h1 : b ≤ x + 1) (h2 : x ≤ b + 1) (hr : (r' + 1 = r ∧ r < K) ∨ (r' = r ∧ r = K - 1)) (h : RealT c B far n K r' k x v) : RealT c B far n K r (k + 1) b (c (k + 1) b + v) := by
  rcases h with ⟨k0, l, g1, g2, g3, g4, g5, g6⟩ | ⟨g1, g2⟩
  · refine .inl ⟨k0, l ++ [b], way_snoc l b hb g1 fun y hy => ?_, by rw [List.length_append, List.length_singleton]; omega, by simp, fun hr1 => ?_, fun hr1 => ?_, ?_⟩
    · rw [g3] at hy
      injection hy with hy
      omega
    · rw [List.length_append, List.length_singleton]
      rcases hr with hr | hr
      · have := g4 (by omega); omega
      · omega
    · rw [List.length_append, List.length_singleton]
      rcases hr with hr | hr
      · have := g4 (by omega); omega
      · have := g5 (by omega); omega
    · rw [cost_snoc, g6, g2]
      omega
  · have hcb := hc (k + 1) b
    have e1 : ((k + 1 + 1 : Nat) : Int) * B = ((k + 1 : Nat) : Int) * B + B := by rw [Int.natCast_add (k + 1), Int.add_mul]; simp
    refine .inr ?_
    rw [e1]
    omega
theorem real_start {r k b : Nat} (hb : b < n) (hr : r = 0) : RealT c B far n K r k b (c k b + 0) ∨ K - 1 ≠ 0 ∨ K ≠ 1 := by
  by_cases h : K = 1
  · left
    subst hr
    exact .inl ⟨k, [b], ⟨hb, fun x hx => by simp at hx, trivial⟩, rfl, rfl, fun _ => rfl, fun _ => by simp [h], by simp [costP]⟩
  · exact .inr (.inr h)
theorem rowT_real (hc : ∀ k b, -B ≤ c k b ∧ c k b ≤ B) (h0 : 0 ≤ B) (hf : 0 ≤ far) (hK : 1 ≤ K) {prev : Nat → Nat → Int} {r cols : Nat} (hr : r < K) (hbig : ((cols + 1 : Nat) : Int) * B + far ≤ big) (hp : 0 < r → ∀ k b, k < cols → b < n → RealT c B far n K (r - 1) k b (prev k b)) : ∀ k, k < cols → ∀ b, b < n → RealT c B far n K r k b (rowT c big far n K prev r k b)
  | 0, hk, b, hb => by
    unfold rowT
    by_cases h : r = 0
    · subst h
      rw [if_pos rfl]
      exact .inl ⟨0, [b], ⟨hb, fun x hx => by simp at hx, trivial⟩, rfl, rfl, fun _ => rfl, fun h => by simp; omega, by simp [costP]⟩
    · rw [if_neg h]
      have := hc 0 b
      refine .inr ?_
      simp
      omega
  | k + 1, hk, b, hb => by
    have ih := rowT_real hc h0 hf hK hr hbig hp k (by omega)
    have hmul : ∀ j, j ≤ cols → ((j + 1 : Nat) : Int) * B ≤ ((cols + 1 : Nat) : Int) * B := fun j hj => Int.mul_le_mul_of_nonneg_right (by omega) h0
    have hk1 := hmul k (by omega)
    unfold rowT
    have first : RealT c B far n K r (k + 1) b (c (k + 1) b + if r = 0 then 0 else behindN big n (prev k) b) := by
      by_cases h : r = 0
      · subst h
        rw [if_pos rfl]
        exact .inl ⟨k + 1, [b], ⟨hb, fun x hx => by simp at hx, trivial⟩, rfl, rfl, fun _ => rfl, fun h => by simp; omega, by simp [costP]⟩
      · rw [if_neg h]
        have hpb := fun x hx => hp (by omega) k x (by omega) hx
        obtain ⟨x, x1, x2, x3, x4⟩ := behind_mem (big := big) (row := prev k) hb (real_bd (big := big) hc h0 hf (by omega) (hpb b hb)).2
        rw [x4]
        exact real_step hc hb x2 x3 (.inl ⟨by omega, hr⟩) (hpb x x1)
    by_cases hl : r = K - 1
    · rw [if_pos hl]
      rcases mn_or (if r = 0 then 0 else behindN big n (prev k) b) (behindN big n (rowT c big far n K prev r k) b) with e | e <;> rw [e]
      · exact first
      · obtain ⟨x, x1, x2, x3, x4⟩ := behind_mem (big := big) (row := rowT c big far n K prev r k) hb (real_bd (big := big) hc h0 hf (by omega) (ih b hb)).2
        rw [x4]
        exact real_step hc hb x2 x3 (.inr ⟨rfl, hl⟩) (ih x x1)
    · rw [if_neg hl]
      exact first
theorem tabT_real (hc : ∀ k b, -B ≤ c k b ∧ c k b ≤ B) (h0 : 0 ≤ B) (hf : 0 ≤ far) (hK : 1 ≤ K) (hbig : ((cols + 1 : Nat) : Int) * B + far ≤ big) : ∀ r, r < K → ∀ k, k < cols → ∀ b, b < n → RealT c B far n K r k b (tabT c big far n K r k b)
  | 0, hr => rowT_real hc h0 hf hK hr hbig fun h => absurd h (by omega)
  | r + 1, hr => rowT_real hc h0 hf hK hr hbig fun _ k b hk hb => tabT_real hc h0 hf hK hbig r (by omega) k hk b hb
theorem tabT_at {r : Nat} : ∃ prev, tabT c big far n K r = rowT c big far n K prev r ∧ (0 < r → prev = tabT c big far n K (r - 1)) := by
  cases r with
  | zero => exact ⟨_, rfl, fun h => absurd h (by omega)⟩
  | succ r => exact ⟨_, rfl, fun _ => rfl⟩
/-- The program's table proves that no surface costs less than nothing, if none does. -/
theorem tabT_proves (hc : ∀ k b, -B ≤ c k b ∧ c k b ≤ B) (h0 : 0 ≤ B) (hf : 0 ≤ far) (hK : 1 ≤ K) (hbig : ((cols + 1 : Nat) : Int) * B + far ≤ big) (hfar : ((cols + 1 : Nat) : Int) * B ≤ far) (hn : ∀ k l, SurfB n cols K k l → 0 ≤ costP c k l) : provesT c big n cols K (tabT c big far n K) := by
  intro r k b hr hk hb
  obtain ⟨prev, hrow, hprev⟩ := tabT_at (c := c) (big := big) (far := far) (n := n) (K := K) (r := r)
  refine ⟨fun h => ?_, fun h1 h2 => ?_, fun h1 h2 => ?_, fun h1 h2 => ?_⟩
  · rw [hrow]
    subst h
    cases k with
    | zero => unfold rowT; rw [if_pos rfl]; omega
    | succ k =>
      unfold rowT
      rw [if_pos rfl]
      have := (mn_le 0 (behindN big n (rowT c big far n K prev 0 k) b)).1
      split <;> omega
  · rw [hrow]
    cases k with
    | zero => omega
    | succ k =>
      unfold rowT
      rw [if_neg (show ¬ r = 0 by omega), hprev h1, Nat.add_sub_cancel]
      have := (mn_le (behindN big n (tabT c big far n K (r - 1) k) b) (behindN big n (rowT c big far n K (tabT c big far n K (r - 1)) r k) b)).1
      split <;> omega
  · rw [hrow]
    cases k with
    | zero => omega
    | succ k =>
      rw [Nat.add_sub_cancel]
      have e : rowT c big far n K prev r (k + 1) b = c (k + 1) b + (if r = K - 1 then mnI (if r = 0 then 0 else behindN big n (prev k) b) (behindN big n (rowT c big far n K prev r k) b) else (if r = 0 then 0 else behindN big n (prev k) b)) := rfl
      rw [e, if_pos h1]
      have := (mn_le (if r = 0 then 0 else behindN big n (prev k) b) (behindN big n (rowT c big far n K prev r k) b)).2
      omega
  · rcases tabT_real hc h0 hf hK hbig r hr k hk b hb with ⟨k0, l, g1, g2, g3, g4, g5, g6⟩ | g
    · rw [← g6]
      exact hn k0 l ⟨g5 h1, by omega, g1⟩
    · have : ((k + 1 : Nat) : Int) * B ≤ ((cols + 1 : Nat) : Int) * B := Int.mul_le_mul_of_nonneg_right (by omega) h0
      omega
end
/-- All surfaces that begin so, by the reference. -/
def surfsR (n cols K k : Nat) : Nat → List Nat → List (List Nat)
  | 0, l => if l ≠ [] ∧ K ≤ l.length ∧ k + l.length ≤ cols then [l] else []
  | r + 1, l => (if l ≠ [] ∧ K ≤ l.length ∧ k + l.length ≤ cols then [l] else []) ++ (List.range n).flatMap fun b => if (∀ y, l.getLast? = some y → y ≤ b + 1 ∧ b ≤ y + 1) then surfsR n cols K k r (l ++ [b]) else []
theorem way_parts {n : Nat} : ∀ (l : List Nat) (x : Nat) (t : List Nat), wayB n (l ++ x :: t) → x < n ∧ ∀ y, l.getLast? = some y → y ≤ x + 1 ∧ x ≤ y + 1
  | [], x, t, h => ⟨h.1, fun y hy => by simp at hy⟩
  | [b], x, t, h => ⟨h.2.2.1, fun y hy => by simp at hy; subst hy; exact h.2.1 x rfl⟩
  | b :: b' :: l, x, t, h => by
    have ih := way_parts (b' :: l) x t h.2.2
    exact ⟨ih.1, fun y hy => ih.2 y (by rw [List.getLast?_cons_cons] at hy; exact hy)⟩
theorem surfs_mem {n cols K k : Nat} (hK : 1 ≤ K) : ∀ (r : Nat) (l m : List Nat), wayB n l → k + l.length + r = cols → (m ∈ surfsR n cols K k r l ↔ (∃ t, m = l ++ t) ∧ SurfB n cols K k m)
  | 0, l, m, hw, hr => by
    unfold surfsR
    constructor
    · intro h
      split at h
      · rename_i hc
        rw [List.mem_singleton] at h
        subst h
        exact ⟨⟨[], by simp⟩, hc.2.1, hc.2.2, hw⟩
      · simp at h
    · rintro ⟨⟨t, rfl⟩, h1, h2, h3⟩
      rw [List.length_append] at h1 h2
      have ht : t = [] := List.eq_nil_of_length_eq_zero (by omega)
      subst ht
      rw [List.append_nil]
      simp only [List.length_nil] at h1 h2
      rw [if_pos ⟨by intro e; subst e; simp at h1; omega, by omega, by omega⟩]
      exact List.mem_singleton.2 rfl
  | r + 1, l, m, hw, hr => by
    unfold surfsR
    rw [List.mem_append, List.mem_flatMap]
    constructor
    · rintro (h | ⟨b, hb, h⟩)
      · split at h
        · rename_i hc
          rw [List.mem_singleton] at h
          subst h
          exact ⟨⟨[], by simp⟩, hc.2.1, hc.2.2, hw⟩
        · simp at h
      · rw [List.mem_range] at hb
        split at h
        · rename_i hc
          rw [surfs_mem hK r (l ++ [b]) m (way_snoc l b hb hw hc) (by rw [List.length_append, List.length_singleton]; omega)] at h
          obtain ⟨⟨t, rfl⟩, h2⟩ := h
          exact ⟨⟨b :: t, by simp⟩, h2⟩
        · simp at h
    · rintro ⟨⟨t, rfl⟩, hs⟩
      cases t with
      | nil =>
        left
        rw [List.append_nil] at hs ⊢
        rw [if_pos ⟨by intro e; subst e; have := hs.1; simp at this; omega, hs.1, hs.2.1⟩]
        exact List.mem_singleton.2 rfl
      | cons b t =>
        right
        obtain ⟨h1, h2⟩ := way_parts l b t hs.2.2
        refine ⟨b, List.mem_range.2 h1, ?_⟩
        rw [if_pos h2, surfs_mem hK r (l ++ [b]) _ (way_snoc l b h1 hw h2) (by rw [List.length_append, List.length_singleton]; omega)]
        exact ⟨⟨t, by simp⟩, hs⟩
/-- All surfaces. -/
def allR (n cols K : Nat) : List (Nat × List Nat) := (List.range cols).flatMap fun k => (surfsR n cols K k (cols - k) []).map fun l => (k, l)
theorem all_mem {n cols K k : Nat} {l : List Nat} (hK : 1 ≤ K) : (k, l) ∈ allR n cols K ↔ SurfB n cols K k l := by
  unfold allR
  rw [List.mem_flatMap]
  constructor
  · rintro ⟨x, hx, h⟩
    obtain ⟨m, hm, he⟩ := List.mem_map.1 h
    simp only [Prod.mk.injEq] at he
    obtain ⟨rfl, rfl⟩ := he
    rw [List.mem_range] at hx
    exact ((surfs_mem hK (cols - x) [] m trivial (by simp; omega)).1 hm).2
  · intro hs
    have h1 := hs.1
    have h2 := hs.2.1
    exact ⟨k, List.mem_range.2 (by omega), List.mem_map.2 ⟨l, (surfs_mem hK (cols - k) [] l trivial (by simp; omega)).2 ⟨⟨l, rfl⟩, hs⟩, rfl⟩⟩
/-- The factor of a surface, by the reference; -1: it does not drive. -/
def refF (H D : Int) : Int := if D < 1 then -1 else factorN H D
def lowestK (f : Nat × List Nat → Int) : List (Nat × List Nat) → Int → Int
  | [], b => b
  | u :: l, b => lowestK f l (if 0 ≤ f u ∧ (b < 0 ∨ f u < b) then f u else b)
theorem lowest_is {f : Nat × List Nat → Int} : ∀ (l : List (Nat × List Nat)) (b : Int), -1 ≤ b → (lowestK f l b < 0 ↔ b < 0 ∧ ∀ u ∈ l, f u < 0) ∧ (0 ≤ lowestK f l b → (lowestK f l b = b ∨ ∃ u ∈ l, f u = lowestK f l b) ∧ (0 ≤ b → lowestK f l b ≤ b) ∧ ∀ u ∈ l, 0 ≤ f u → lowestK f l b ≤ f u)
  | [], b, _ => ⟨⟨fun h => ⟨h, fun u hu => by simp at hu⟩, fun h => h.1⟩, fun _ => ⟨.inl rfl, fun _ => Int.le_refl _, fun u hu => by simp at hu⟩⟩
  | u :: l, b, hb => by
    unfold lowestK
    by_cases h : 0 ≤ f u ∧ (b < 0 ∨ f u < b)
    · rw [if_pos h]
      obtain ⟨i1, i2⟩ := lowest_is (f := f) l (f u) (by omega)
      refine ⟨⟨fun hl => ?_, fun hl => ?_⟩, fun hl => ?_⟩
      · have := (i1.1 hl).1; omega
      · have := hl.2 u List.mem_cons_self; omega
      · obtain ⟨a1, a2, a3⟩ := i2 hl
        refine ⟨.inr ?_, fun h0 => ?_, fun x hx hx0 => ?_⟩
        · rcases a1 with a1 | ⟨x, hx, he⟩
          · exact ⟨u, List.mem_cons_self, a1.symm⟩
          · exact ⟨x, List.mem_cons_of_mem _ hx, he⟩
        · have h5 := a2 h.1
          clear a1 a3 i1 i2
          omega
        · rcases List.mem_cons.1 hx with rfl | hx
          · exact a2 h.1
          · exact a3 x hx hx0
    · rw [if_neg h]
      obtain ⟨i1, i2⟩ := lowest_is (f := f) l b hb
      refine ⟨⟨fun hl => ?_, fun hl => ?_⟩, fun hl => ?_⟩
      · obtain ⟨g1, g2⟩ := i1.1 hl
        refine ⟨g1, fun x hx => ?_⟩
        rcases List.mem_cons.1 hx with rfl | hx
        · omega
        · exact g2 x hx
      · exact i1.2 ⟨hl.1, fun x hx => hl.2 x (List.mem_cons_of_mem _ hx)⟩
      · obtain ⟨a1, a2, a3⟩ := i2 hl
        refine ⟨?_, a2, fun x hx hx0 => ?_⟩
        · rcases a1 with a1 | ⟨x, hx, he⟩
          · exact .inl a1
          · exact .inr ⟨x, List.mem_cons_of_mem _ hx, he⟩
        · rcases List.mem_cons.1 hx with rfl | hx
          · by_cases hb0 : b < 0
            · exact absurd ⟨hx0, .inl hb0⟩ h
            · have h5 := a2 (by omega)
              clear a1 a3 i1 i2
              omega
          · exact a3 x hx hx0
section
variable {h d : Nat → Nat → Int} {n cols K : Nat} {f : Int}
def lowestR (h d : Nat → Nat → Int) (n cols K : Nat) : Int := lowestK (fun u => refF (sumH h u.1 u.2) (sumH d u.1 u.2)) (allR n cols K) (-1)
theorem refF_neg (ok : HdOk h d n cols K) (k : Nat) (l : List Nat) : refF (sumH h k l) (sumH d k l) < 0 ↔ ¬ (1 ≤ sumH d k l) := by
  unfold refF
  split
  · omega
  · have := (factor_bd (sumH_nonneg ok.h0 l k) (D := sumH d k l) (by omega)).1
    omega
/-- Worst finds the reference's least factor. -/
theorem lowest_worst (ok : HdOk h d n cols K) : (worstR h d n cols K = none → lowestR h d n cols K < 0) ∧ ∀ u v, worstR h d n cols K = some (u, v) → lowestR h d n cols K = v ∧ 0 ≤ v := by
  obtain ⟨i1, i2⟩ := lowest_is (f := fun u => refF (sumH h u.1 u.2) (sumH d u.1 u.2)) (allR n cols K) (-1) (by omega)
  refine ⟨fun hw => ?_, fun u v hw => ?_⟩
  · exact i1.2 ⟨by omega, fun u hu => (refF_neg ok u.1 u.2).2 (worst_none ok hw u.1 u.2 ((all_mem ok.K0).1 hu))⟩
  · obtain ⟨k, l⟩ := u
    obtain ⟨a1, a2, a3, a4⟩ := worst_some ok hw
    have hv : 0 ≤ v := by rw [← a3]; exact (factor_bd (sumH_nonneg ok.h0 l k) a2).1
    have hnn : 0 ≤ lowestR h d n cols K := by
      by_cases hneg : lowestR h d n cols K < 0
      · have := (i1.1 hneg).2 (k, l) ((all_mem ok.K0).2 a1)
        exact absurd a2 ((refF_neg ok k l).1 this)
      · omega
    obtain ⟨b1, _, b3⟩ := i2 hnn
    have e : refF (sumH h k l) (sumH d k l) = v := by unfold refF; rw [if_neg (by omega)]; exact a3
    have h1 := b3 (k, l) ((all_mem ok.K0).2 a1) (by show 0 ≤ refF (sumH h k l) (sumH d k l); omega)
    dsimp only at h1
    rw [e] at h1
    refine ⟨?_, hv⟩
    rcases b1 with b1 | ⟨⟨x, m⟩, hx, he⟩
    · have : lowestR h d n cols K = -1 := b1
      omega
    · have hs := (all_mem ok.K0).1 hx
      dsimp only at he
      have hd : 1 ≤ sumH d x m := by
        by_cases hd : 1 ≤ sumH d x m
        · exact hd
        · have := (refF_neg ok x m).2 hd
          have e2 : refF (sumH h x m) (sumH d x m) = lowestR h d n cols K := he
          omega
      have h2 := a4 x m hs hd
      have e2 : refF (sumH h x m) (sumH d x m) = lowestR h d n cols K := he
      unfold refF at e2
      rw [if_neg (by omega)] at e2
      have h1' : lowestR h d n cols K ≤ v := h1
      omega
/-- A slope bears a factor by the reference just if the program finds nothing lower. -/
theorem bears_low (ok : HdOk h d n cols K) (f0 : 0 ≤ f) (f1 : f ≤ 10000) : (lowestR h d n cols K < 0 ∨ f ≤ lowestR h d n cols K) ↔ lowF h d n cols K f = none := by
  obtain ⟨h1, h2⟩ := lowest_worst ok
  have h3 := low_worst ok f0 f1
  cases hw : worstR h d n cols K with
  | none =>
    have := h1 hw
    refine ⟨fun _ => ?_, fun _ => .inl this⟩
    cases hl : lowF h d n cols K f with
    | none => rfl
    | some q =>
      rw [hl] at h3
      obtain ⟨u, v, h4, _⟩ := h3.1 rfl
      rw [hw] at h4
      cases h4
  | some z =>
    obtain ⟨u, v⟩ := z
    obtain ⟨g1, g2⟩ := h2 u v hw
    rw [g1]
    constructor
    · intro hq0
      cases hl : lowF h d n cols K f with
      | none => rfl
      | some q =>
        rw [hl] at h3
        obtain ⟨u', v', h4, h5⟩ := h3.1 rfl
        rw [hw] at h4
        simp only [Option.some.injEq, Prod.mk.injEq] at h4
        omega
    · intro hl
      by_cases hv : v < f
      · have := h3.2 ⟨u, v, hw, hv⟩
        rw [hl] at this
        cases this
      · exact .inr (by omega)
end

end Go.Proofs.Ytkenokpobbichaa
