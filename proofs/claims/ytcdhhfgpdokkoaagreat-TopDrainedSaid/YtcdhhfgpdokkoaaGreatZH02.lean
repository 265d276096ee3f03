/- What the last text of this chain needs: P, A, B, C, D, E, F. -/
import Derived.Test.YtcdhhfgpdokkoaaGreatZH01
namespace Go.Proofs.YtcdhhfgpdokkoaaGreat
section
def nearL (n b : Nat) : List Nat := List.range' (b - 1) (min (n - 1) (b + 1) + 1 - (b - 1))
theorem mem_near {n b x : Nat} (hb : b < n) : x ∈ nearL n b ↔ x < n /\ b <= x + 1 /\ x <= b + 1 := by
 unfold nearL
 rw [List.mem_range'_1]
 omega
def minL (z : Int) (l : List Int) : Int := l.foldl mnI z
theorem minL_le : ∀ (l : List Int) (z : Int), minL z l <= z /\ ∀ x ∈ l, minL z l <= x
 | [], z => ⟨Int.le_refl _, fun x h => by simp at h⟩
 | y :: l, z => by
  have h := minL_le l (mnI z y)
  have h2 : mnI z y <= z /\ mnI z y <= y := by unfold mnI; split <;> omega
  refine ⟨Int.le_trans h.1 h2.1, fun x hx => ?_⟩
  rcases List.mem_cons.1 hx with rfl | hx
  ·exact Int.le_trans h.1 h2.2
  ·exact h.2 x hx
theorem minL_mem : ∀ (l : List Int) (z : Int), minL z l = z ∨ minL z l ∈ l
 | [], z => .inl rfl
 | y :: l, z => by
  rcases minL_mem l (mnI z y) with h | h
  ·have h2 : mnI z y = z ∨ mnI z y = y := by unfold mnI; split <;> simp
   rcases h2 with h2 | h2
   ·exact .inl (h.trans h2)
   ·exact .inr (List.mem_cons.2 (.inl (h.trans h2)))
  ·exact .inr (List.mem_cons.2 (.inr h))
def restN (c : Nat -> Nat -> Int) (n : Nat) (big : Int) : Nat -> Nat -> Nat -> Int
 | 0, k, b => c k b
 | m + 1, k, b => c k b + minL big ((nearL n b).map (restN c n big m (k + 1)))
def costP (c : Nat -> Nat -> Int) : Nat -> List Nat -> Int
 | _, [] => 0
 | k, b :: t => c k b + costP c (k + 1) t
def wayB (n : Nat) : List Nat -> Prop
 | [] => True
 | b :: t => b < n /\ (∀ x, t.head? = some x -> b <= x + 1 /\ x <= b + 1) /\ wayB n t
theorem rest_le {c : Nat -> Nat -> Int} {n : Nat} {big : Int} : ∀ (t : List Nat) (k b : Nat), wayB n (b :: t) -> restN c n big t.length k b <= costP c k (b :: t)
 | [], k, b, _ => by simp [restN, costP]
 | x :: t, k, b, h => by
  obtain ⟨hb, hx, ht⟩ := h
  have ih := rest_le (c := c) (big := big) t (k + 1) x ht
  have hx2 := hx x rfl
  have h1 := (minL_le ((nearL n b).map (restN c n big t.length (k + 1))) big).2 _ (List.mem_map.2 ⟨x, (mem_near hb).2 ⟨ht.1, hx2⟩, rfl⟩)
  simp only [List.length_cons, restN, costP] at ih ⊢
  omega
def stepB (c : Nat -> Nat -> Int) (n : Nat) (big : Int) (m k b : Nat) : Nat := (nearL n b).foldl (fun best x => if restN c n big m (k + 1) x < restN c n big m (k + 1) best then x else best) b
theorem fold_best {f : Nat -> Int} : ∀ (l : List Nat) (b : Nat), (l.foldl (fun best x => if f x < f best then x else best) b = b ∨ l.foldl (fun best x => if f x < f best then x else best) b ∈ l) /\ f (l.foldl (fun best x => if f x < f best then x else best) b) <= f b /\ ∀ x ∈ l, f (l.foldl (fun best x => if f x < f best then x else best) b) <= f x
 | [], b => ⟨.inl rfl, Int.le_refl _, fun x h => by simp at h⟩
 | y :: l, b => by
  rw [List.foldl_cons]
  by_cases hy : f y < f b
  ·rw [if_pos hy]
   obtain ⟨h1, h2, h3⟩ := fold_best (f := f) l y
   refine ⟨.inr ?_, by omega, fun x hx => ?_⟩
   ·rcases h1 with h1 | h1
    ·rw [h1]; exact List.mem_cons_self
    ·exact List.mem_cons_of_mem _ h1
   ·rcases List.mem_cons.1 hx with rfl | hx
    ·exact h2
    ·exact h3 x hx
  ·rw [if_neg hy]
   obtain ⟨h1, h2, h3⟩ := fold_best (f := f) l b
   refine ⟨?_, h2, fun x hx => ?_⟩
   ·rcases h1 with h1 | h1
    ·exact .inl h1
    ·exact .inr (List.mem_cons_of_mem _ h1)
   ·rcases List.mem_cons.1 hx with rfl | hx
    ·omega
    ·exact h3 x hx
theorem step_mem {c : Nat -> Nat -> Int} {n : Nat} {big : Int} {m k b : Nat} (hb : b < n) : stepB c n big m k b < n /\ b <= stepB c n big m k b + 1 /\ stepB c n big m k b <= b + 1 := by
 rcases (fold_best (f := restN c n big m (k + 1)) (nearL n b) b).1 with h | h
 ·unfold stepB
  rw [h]
  omega
 ·exact (mem_near hb).1 h
theorem rest_abs {c : Nat -> Nat -> Int} {n : Nat} {big B : Int} (hc : ∀ k b, b < n -> -B <= c k b /\ c k b <= B) (h0 : 0 <= B) : ∀ (m k b : Nat), b < n -> (m : Int) * B <= big -> -((m + 1 : Nat) : Int) * B <= restN c n big m k b /\ restN c n big m k b <= ((m + 1 : Nat) : Int) * B
 | 0, k, b, hb, _ => by have := hc k b hb; simp [restN]; omega
 | m + 1, k, b, hb, hm => by
  have e1 : ((m + 1 : Nat) : Int) * B = m * B + B := by rw [Int.natCast_add, Int.add_mul]; simp
  have e2 : ((m + 1 + 1 : Nat) : Int) * B = m * B + B + B := by rw [Int.natCast_add, Int.add_mul, e1]; simp
  have hmb : 0 <= (m : Int) * B := Int.mul_nonneg (by omega) h0
  have ih := fun x hx => rest_abs (big := big) hc h0 m (k + 1) x hx (by omega)
  have hcb := hc k b hb
  have h1 := (minL_le ((nearL n b).map (restN c n big m (k + 1))) big).2 _ (List.mem_map.2 ⟨b, (mem_near hb).2 (by omega), rfl⟩)
  have h2 := (ih b hb).2
  have h3 : -(m * B + B) <= minL big ((nearL n b).map (restN c n big m (k + 1))) := by
   rcases minL_mem ((nearL n b).map (restN c n big m (k + 1))) big with h | h
   ·rw [h]; omega
   ·obtain ⟨x, hx, hxe⟩ := List.mem_map.1 h
    have := (ih x ((mem_near hb).1 hx).1).1
    rw [Int.neg_mul, e1] at this
    omega
  rw [Int.neg_mul, e2]
  rw [e1] at h2
  simp only [restN]
  omega
theorem rest_step {c : Nat -> Nat -> Int} {n : Nat} {big B : Int} (hc : ∀ k b, b < n -> -B <= c k b /\ c k b <= B) (h0 : 0 <= B) {m k b : Nat} (hb : b < n) (hm : ((m + 1 : Nat) : Int) * B <= big) : restN c n big (m + 1) k b = c k b + restN c n big m (k + 1) (stepB c n big m k b) := by
 have e1 : ((m + 1 : Nat) : Int) * B = m * B + B := by rw [Int.natCast_add, Int.add_mul]; simp
 have hmb : 0 <= (m : Int) * B := Int.mul_nonneg (by omega) h0
 simp only [restN]
 congr 1
 obtain ⟨h1, h2, h3⟩ := fold_best (f := restN c n big m (k + 1)) (nearL n b) b
 have hs := step_mem (c := c) (big := big) (m := m) (k := k) hb
 have h4 := (minL_le ((nearL n b).map (restN c n big m (k + 1))) big).2 _ (List.mem_map.2 ⟨stepB c n big m k b, (mem_near hb).2 hs, rfl⟩)
 have h5 := (rest_abs (big := big) hc h0 m (k + 1) b hb (by omega)).2
 rcases minL_mem ((nearL n b).map (restN c n big m (k + 1))) big with h | h
 ·have h7 : restN c n big m (k + 1) (stepB c n big m k b) <= restN c n big m (k + 1) b := h2
  omega
 ·obtain ⟨x, hx, hxe⟩ := List.mem_map.1 h
  have h6 : restN c n big m (k + 1) (stepB c n big m k b) <= restN c n big m (k + 1) x := h3 x hx
  omega
def pathB (c : Nat -> Nat -> Int) (n : Nat) (big : Int) : Nat -> Nat -> Nat -> List Nat
 | 0, _, b => [b]
 | m + 1, k, b => b :: pathB c n big m (k + 1) (stepB c n big m k b)
theorem path_len {c : Nat -> Nat -> Int} {n : Nat} {big : Int} : ∀ (m k b : Nat), (pathB c n big m k b).length = m + 1
 | 0, _, _ => rfl
 | m + 1, k, b => by simp [pathB, path_len m]
theorem path_head {c : Nat -> Nat -> Int} {n : Nat} {big : Int} : ∀ (m k b : Nat), (pathB c n big m k b).head? = some b
 | 0, _, _ => rfl
 | _ + 1, _, _ => rfl
theorem path_way {c : Nat -> Nat -> Int} {n : Nat} {big : Int} : ∀ (m k b : Nat), b < n -> wayB n (pathB c n big m k b)
 | 0, _, _, h => ⟨h, fun x hx => by simp at hx, trivial⟩
 | m + 1, k, b, h => by
  have hs := step_mem (c := c) (big := big) (m := m) (k := k) h
  refine ⟨h, fun x hx => ?_, path_way m (k + 1) _ hs.1⟩
  rw [path_head] at hx
  injection hx with hx
  omega
theorem path_cost {c : Nat -> Nat -> Int} {n : Nat} {big B : Int} (hc : ∀ k b, b < n -> -B <= c k b /\ c k b <= B) (h0 : 0 <= B) : ∀ (m k b : Nat), b < n -> (m : Int) * B <= big -> costP c k (pathB c n big m k b) = restN c n big m k b
 | 0, k, b, _, _ => by simp [pathB, costP, restN]
 | m + 1, k, b, hb, hm => by
  have e1 : ((m + 1 : Nat) : Int) * B = m * B + B := by rw [Int.natCast_add, Int.add_mul]; simp
  rw [rest_step hc h0 hb hm]
  simp only [pathB, costP]
  rw [path_cost hc h0 m (k + 1) _ (step_mem hb).1 (by omega)]
def firstB (f : Nat -> Int) (big : Int) : Nat -> Int × Nat
 | 0 => (big, 0)
 | b + 1 => if f b < (firstB f big b).1 then (f b, b) else firstB f big b
theorem first_is {f : Nat -> Int} {big : Int} : ∀ n, (firstB f big n).1 <= big /\ (∀ b, b < n -> (firstB f big n).1 <= f b) /\ (firstB f big n = (big, 0) ∨ ((firstB f big n).2 < n /\ (firstB f big n).1 = f (firstB f big n).2))
 | 0 => ⟨Int.le_refl _, fun b h => by omega, .inl rfl⟩
 | n + 1 => by
  obtain ⟨h1, h2, h3⟩ := first_is (f := f) (big := big) n
  unfold firstB
  by_cases h : f n < (firstB f big n).1
  ·rw [if_pos h]
   refine ⟨by show f n <= big; omega, fun b hb => ?_, .inr ⟨Nat.lt_succ_self n, rfl⟩⟩
   show f n <= f b
   by_cases he : b = n
   ·rw [he]; exact Int.le_refl _
   ·have := h2 b (by omega); omega
  ·rw [if_neg h]
   refine ⟨h1, fun b hb => ?_, ?_⟩
   ·by_cases he : b = n
    ·rw [he]; omega
    ·exact h2 b (by omega)
   ·rcases h3 with h3 | h3
    ·exact .inl h3
    ·exact .inr ⟨by omega, h3.2⟩
def cheapN (c : Nat -> Nat -> Int) (n : Nat) (big : Int) (m k : Nat) : List Nat × Int := (pathB c n big m k (firstB (restN c n big m k) big n).2, (firstB (restN c n big m k) big n).1)
theorem cheap_is {c : Nat -> Nat -> Int} {n : Nat} {big B : Int} (hc : ∀ k b, b < n -> -B <= c k b /\ c k b <= B) (h0 : 0 <= B) (hn : 0 < n) {m k : Nat} (hm : ((m + 1 : Nat) : Int) * B < big) :
  (cheapN c n big m k).1.length = m + 1 /\ wayB n (cheapN c n big m k).1 /\ costP c k (cheapN c n big m k).1 = (cheapN c n big m k).2 /\ ∀ l, l.length = m + 1 -> wayB n l -> (cheapN c n big m k).2 <= costP c k l := by
 have e1 : ((m + 1 : Nat) : Int) * B = m * B + B := by rw [Int.natCast_add, Int.add_mul]; simp
 have hmb : 0 <= (m : Int) * B := Int.mul_nonneg (by omega) h0
 obtain ⟨h1, h2, h3⟩ := first_is (f := restN c n big m k) (big := big) n
 have hne : firstB (restN c n big m k) big n ≠ (big, 0) := by
  intro e
  have h4 := h2 0 hn
  have h5 := (rest_abs (big := big) hc h0 m k 0 hn (by omega)).2
  rw [e] at h4
  dsimp only at h4
  omega
 obtain ⟨h6, h7⟩ := h3.resolve_left hne
 refine ⟨path_len _ _ _, path_way _ _ _ h6, ?_, fun l hl hw => ?_⟩
 ·unfold cheapN
  dsimp only
  rw [path_cost hc h0 m k _ h6 (by omega), h7]
 ·cases l with
  | nil => simp at hl
  | cons b t =>
   have h8 := rest_le (c := c) (big := big) t k b hw
   have h9 := h2 b hw.1
   have : t.length = m := by simpa using hl
   rw [this] at h8
   exact Int.le_trans h9 h8
def sumH (h : Nat -> Nat -> Int) : Nat -> List Nat -> Int
 | _, [] => 0
 | k, b :: t => h k b + sumH h (k + 1) t
theorem cost_sums {h d : Nat -> Nat -> Int} {f : Int} : ∀ (l : List Nat) (k : Nat), costP (fun k b => 1000 * h k b - f * d k b) k l = 1000 * sumH h k l - f * sumH d k l
 | [], k => by simp [costP, sumH]
 | b :: t, k => by
  have ih := cost_sums (h := h) (d := d) (f := f) t (k + 1)
  simp only [costP, sumH, Int.mul_add] at ih ⊢
  omega
theorem sumH_nonneg {h : Nat -> Nat -> Int} (hh : ∀ k b, 0 <= h k b) : ∀ (l : List Nat) (k : Nat), 0 <= sumH h k l
 | [], k => Int.le_refl _
 | b :: t, k => by
  have := hh k b
  have := sumH_nonneg hh t (k + 1)
  simp only [sumH]
  omega
theorem neg_iff {H D f : Int} (hH : 0 <= H) (hf : 0 <= f) : 1000 * H - f * D < 0 ↔ 1 <= D /\ 1000 * H / D < f := by
 constructor
 ·intro h
  have hD : 1 <= D := by
   by_cases h1 : D < 1
   ·have : f * D <= 0 := Int.mul_nonpos_of_nonneg_of_nonpos hf (by omega)
    omega
   ·omega
  refine ⟨hD, ?_⟩
  rw [Int.ediv_lt_iff_lt_mul (by omega)]
  omega
 ·rintro ⟨h1, h2⟩
  rw [Int.ediv_lt_iff_lt_mul (by omega)] at h2
  omega
def factorN (H D : Int) : Int := mnI 10000 (1000 * H / D)
theorem factor_lt {H D f : Int} (h : f <= 10000) : factorN H D < f ↔ 1000 * H / D < f := by
 unfold factorN mnI
 split <;> omega
def SurfB (n cols K k : Nat) (l : List Nat) : Prop := K <= l.length /\ k + l.length <= cols /\ wayB n l
def LowB (c : Nat -> Nat -> Int) (n cols K : Nat) : Prop := ∃ k l, SurfB n cols K k l /\ costP c k l < 0
def firstN (p : Nat -> Bool) (a : Nat) : Nat -> Nat
 | 0 => a
 | n + 1 => if p a then a else firstN p (a + 1) n
theorem firstN_is {p : Nat -> Bool} : ∀ (n a : Nat), a <= firstN p a n /\ firstN p a n <= a + n /\ (∀ m, a <= m -> m < firstN p a n -> p m = false) /\ (firstN p a n < a + n -> p (firstN p a n) = true)
 | 0, a => ⟨Nat.le_refl _, Nat.le_refl _, fun m h1 h2 => by simp only [firstN] at h2; omega, fun h => by simp only [firstN] at h; omega⟩
 | n + 1, a => by
  unfold firstN
  cases hp : p a with
  | true =>
   rw [if_pos rfl]
   exact ⟨Nat.le_refl _, by omega, fun m h1 h2 => by omega, fun _ => hp⟩
  | false =>
   rw [if_neg (by decide)]
   obtain ⟨h1, h2, h3, h4⟩ := firstN_is (p := p) n (a + 1)
   refine ⟨by omega, by omega, fun m hm1 hm2 => ?_, fun h => h4 (by omega)⟩
   by_cases he : m = a
   ·rw [he]; exact hp
   ·exact h3 m (by omega) hm2
theorem firstN_unique {p : Nat -> Bool} {a n L : Nat} (h1 : a <= L) (h2 : L <= a + n) (h3 : ∀ m, a <= m -> m < L -> p m = false) (h4 : L < a + n -> p L = true) : L = firstN p a n := by
 obtain ⟨g1, g2, g3, g4⟩ := firstN_is (p := p) n a
 rcases Nat.lt_trichotomy L (firstN p a n) with h | h | h
 ·have := g3 L h1 h
  rw [h4 (by omega)] at this
  cases this
 ·exact h
 ·have := h3 _ g1 h
  rw [g4 (by omega)] at this
  cases this
def lowIn (c : Nat -> Nat -> Int) (n : Nat) (big : Int) (k : Nat) : Nat -> Nat -> Option (List Nat)
 | _, 0 => none
 | m, j + 1 => if (cheapN c n big m k).2 < 0 then some (cheapN c n big m k).1 else lowIn c n big k (m + 1) j
def lowS (c : Nat -> Nat -> Int) (n : Nat) (big : Int) (cols K : Nat) : Nat -> Nat -> Option (Nat × List Nat)
 | _, 0 => none
 | k, j + 1 => match lowIn c n big k (K - 1) (cols - (k + (K - 1))) with
  | some l => some (k, l)
  | none => lowS c n big cols K (k + 1) j
section
variable {c : Nat -> Nat -> Int} {n cols K : Nat} {big B : Int}
theorem lowIn_is (hc : ∀ k b, b < n -> -B <= c k b /\ c k b <= B) (h0 : 0 <= B) (hn : 0 < n) (k : Nat) : ∀ (j m : Nat), ((m + j : Nat) : Int) * B < big ->
  (lowIn c n big k m j = none -> ∀ i l, i < j -> l.length = m + i + 1 -> wayB n l -> 0 <= costP c k l) /\ (∀ l, lowIn c n big k m j = some l -> ∃ i, i < j /\ l.length = m + i + 1 /\ wayB n l /\ costP c k l < 0)
 | 0, m, _ => ⟨fun _ i l h => by omega, fun l h => by simp [lowIn] at h⟩
 | j + 1, m, hb => by
  have e1 : ((m + 1 : Nat) : Int) * B <= ((m + (j + 1) : Nat) : Int) * B := Int.mul_le_mul_of_nonneg_right (by omega) h0
  obtain ⟨g1, g2, g3, g4⟩ := cheap_is (big := big) hc h0 hn (m := m) (k := k) (by omega)
  obtain ⟨i1, i2⟩ := lowIn_is hc h0 hn k j (m + 1) (by rw [show m + 1 + j = m + (j + 1) by omega]; exact hb)
  unfold lowIn
  by_cases h : (cheapN c n big m k).2 < 0
  ·rw [if_pos h]
   refine ⟨fun h => by simp at h, fun l hl => ⟨0, by omega, ?_⟩⟩
   injection hl with hl
   subst hl
   exact ⟨by omega, g2, by omega⟩
  ·rw [if_neg h]
   refine ⟨fun hl i l hi hlen hw => ?_, fun l hl => ?_⟩
   ·by_cases he : i = 0
    ·subst he
     have := g4 l (by omega) hw
     omega
    ·exact i1 hl (i - 1) l (by omega) (by omega) hw
   ·obtain ⟨i, q1, q2, q3⟩ := i2 l hl
    exact ⟨i + 1, by omega, by omega, q3⟩
theorem lowS_is (hc : ∀ k b, b < n -> -B <= c k b /\ c k b <= B) (h0 : 0 <= B) (hn : 0 < n) (hK : 1 <= K) (hb : ((cols + K : Nat) : Int) * B < big) : ∀ (j k : Nat), k + j = cols ->
  (lowS c n big cols K k j = none -> ∀ x l, k <= x -> SurfB n cols K x l -> 0 <= costP c x l) /\ (∀ x l, lowS c n big cols K k j = some (x, l) -> SurfB n cols K x l /\ costP c x l < 0)
 | 0, k, hk => ⟨fun _ x l hx hs => by have := hs.1; have := hs.2.1; omega, fun x l h => by simp [lowS] at h⟩
 | j + 1, k, hk => by
  have e1 : ((K - 1 + (cols - (k + (K - 1))) : Nat) : Int) * B <= ((cols + K : Nat) : Int) * B := Int.mul_le_mul_of_nonneg_right (by omega) h0
  obtain ⟨g1, g2⟩ := lowIn_is (big := big) hc h0 hn k (cols - (k + (K - 1))) (K - 1) (by omega)
  obtain ⟨i1, i2⟩ := lowS_is hc h0 hn hK hb j (k + 1) (by omega)
  unfold lowS
  cases hl : lowIn c n big k (K - 1) (cols - (k + (K - 1))) with
  | some l =>
   refine ⟨fun h => by simp at h, fun x l' h => ?_⟩
   simp only [Option.some.injEq, Prod.mk.injEq] at h
   obtain ⟨rfl, rfl⟩ := h
   obtain ⟨i, q1, q2, q3, q4⟩ := g2 l hl
   exact ⟨⟨by omega, by omega, q3⟩, q4⟩
  | none =>
   refine ⟨fun h x l hx hs => ?_, fun x l h => i2 x l h⟩
   by_cases he : x = k
   ·subst he
    have h1 := hs.1
    have h2 := hs.2.1
    exact g1 hl (l.length - K) l (by omega) (by omega) hs.2.2
   ·exact i1 h x l (by omega) hs
theorem lowS_iff (hc : ∀ k b, b < n -> -B <= c k b /\ c k b <= B) (h0 : 0 <= B) (hn : 0 < n) (hK : 1 <= K) (hb : ((cols + K : Nat) : Int) * B < big) : (lowS c n big cols K 0 cols).isSome = true ↔ LowB c n cols K := by
 obtain ⟨h1, h2⟩ := lowS_is (cols := cols) hc h0 hn hK hb cols 0 (by omega)
 constructor
 ·intro h
  obtain ⟨⟨x, l⟩, hx⟩ := Option.isSome_iff_exists.1 h
  exact ⟨x, l, h2 x l hx⟩
 ·rintro ⟨x, l, hs, hcs⟩
  cases hl : lowS c n big cols K 0 cols with
  | some _ => rfl
  | none =>
   have := h1 hl x l (Nat.zero_le _) hs
   omega
end
abbrev bigN : Int := 1000000000000000
def cF (h d : Nat -> Nat -> Int) (f : Int) : Nat -> Nat -> Int := fun k b => 1000 * h k b - f * d k b
structure HdOk (h d : Nat -> Nat -> Int) (n cols K : Nat) : Prop where
 h0 : ∀ k b, 0 <= h k b
 h1 : ∀ k b, h k b <= 300000
 d0 : ∀ k b, -100000 <= d k b
 d1 : ∀ k b, d k b <= 100000
 n0 : 0 < n
 K0 : 1 <= K
 few : cols + K <= 1000
section
variable {h d : Nat -> Nat -> Int} {n cols K : Nat} {f g : Int}
theorem cF_bd (ok : HdOk h d n cols K) (f0 : 0 <= f) (f1 : f <= 10001) (k b : Nat) : -1300100000 <= cF h d f k b /\ cF h d f k b <= 1300100000 := by
 have a1 := ok.h0 k b
 have a2 := ok.h1 k b
 have a3 := Int.mul_le_mul_of_nonneg_left (ok.d1 k b) f0
 have a4 := Int.mul_le_mul_of_nonneg_left (ok.d0 k b) f0
 unfold cF
 omega
def lowF (h d : Nat -> Nat -> Int) (n cols K : Nat) (f : Int) : Option (Nat × List Nat) := lowS (cF h d f) n bigN cols K 0 cols
theorem few_big (ok : HdOk h d n cols K) : ((cols + K : Nat) : Int) * 1300100000 < bigN := by
 have := ok.few
 show ((cols + K : Nat) : Int) * 1300100000 < 1000000000000000
 omega
theorem lowF_iff (ok : HdOk h d n cols K) (f0 : 0 <= f) (f1 : f <= 10001) : (lowF h d n cols K f).isSome = true ↔ ∃ k l, SurfB n cols K k l /\ 1 <= sumH d k l /\ 1000 * sumH h k l / sumH d k l < f := by
 unfold lowF
 rw [lowS_iff (B := 1300100000) (fun k b _ => cF_bd ok f0 f1 k b) (by omega) ok.n0 ok.K0 (few_big ok)]
 unfold LowB
 refine exists_congr fun k => exists_congr fun l => and_congr_right fun _ => ?_
 unfold cF
 rw [cost_sums, neg_iff (sumH_nonneg ok.h0 l k) f0]
theorem lowF_none (ok : HdOk h d n cols K) (f0 : 0 <= f) (f1 : f <= 10001) (hl : lowF h d n cols K f = none) {k : Nat} {l : List Nat} (hs : SurfB n cols K k l) (hd : 1 <= sumH d k l) : f <= 1000 * sumH h k l / sumH d k l := by
 by_cases hlt : 1000 * sumH h k l / sumH d k l < f
 ·have := (lowF_iff ok f0 f1).2 ⟨k, l, hs, hd, hlt⟩
  rw [hl] at this
  cases this
 ·omega
theorem lowF_some (ok : HdOk h d n cols K) (f0 : 0 <= f) (f1 : f <= 10001) {k : Nat} {l : List Nat} (hl : lowF h d n cols K f = some (k, l)) : SurfB n cols K k l /\ 1 <= sumH d k l /\ 1000 * sumH h k l / sumH d k l < f := by
 obtain ⟨h1, h2⟩ := (lowS_is (B := 1300100000) (fun k b _ => cF_bd ok f0 f1 k b) (by omega) ok.n0 ok.K0 (few_big ok) cols 0 (by omega)).2 k l hl
 unfold cF at h2
 rw [cost_sums, neg_iff (sumH_nonneg ok.h0 l k) f0] at h2
 exact ⟨h1, h2⟩
def worstL (h d : Nat -> Nat -> Int) (n cols K : Nat) : Nat := firstN (fun f => (lowF h d n cols K f).isSome) 1 10000
def worstR (h d : Nat -> Nat -> Int) (n cols K : Nat) : Option ((Nat × List Nat) × Int) :=
 if worstL h d n cols K <= 10000 then (lowF h d n cols K (worstL h d n cols K)).map fun u => (u, (worstL h d n cols K : Int) - 1)
 else (lowF (fun _ _ => 0) d n cols K 1).map fun u => (u, 10000)
theorem zero_ok (ok : HdOk h d n cols K) : HdOk (fun _ _ => 0) d n cols K := ⟨fun _ _ => Int.le_refl _, fun _ _ => by omega, ok.d0, ok.d1, ok.n0, ok.K0, ok.few⟩
theorem worst_some (ok : HdOk h d n cols K) {k : Nat} {l : List Nat} {v : Int} (hw : worstR h d n cols K = some ((k, l), v)) :
  SurfB n cols K k l /\ 1 <= sumH d k l /\ factorN (sumH h k l) (sumH d k l) = v /\ ∀ x m, SurfB n cols K x m -> 1 <= sumH d x m -> v <= factorN (sumH h x m) (sumH d x m) := by
 obtain ⟨g1, g2, g3, g4⟩ := firstN_is (p := fun f => (lowF h d n cols K f).isSome) 10000 1
 unfold worstR at hw
 unfold worstL at hw
 obtain ⟨L, hL⟩ : ∃ L, L = firstN (fun f => (lowF h d n cols K f).isSome) 1 10000 := ⟨_, rfl⟩
 rw [<- hL] at hw g1 g2 g3 g4
 by_cases hle : L <= 10000
 ·rw [if_pos hle, Option.map_eq_some_iff] at hw
  obtain ⟨u, hu, he⟩ := hw
  simp only [Prod.mk.injEq] at he
  obtain ⟨rfl, rfl⟩ := he
  obtain ⟨a1, a2, a3⟩ := lowF_some ok (by omega) (by omega) hu
  have low : ∀ x m, SurfB n cols K x m -> 1 <= sumH d x m -> (L : Int) - 1 <= 1000 * sumH h x m / sumH d x m := by
   intro x m hs hd
   by_cases h1 : L = 1
   ·have := Int.ediv_nonneg (a := 1000 * sumH h x m) (b := sumH d x m) (by have := sumH_nonneg ok.h0 m x; omega) (by omega)
    omega
   ·have h2 := g3 (L - 1) (by omega) (by omega)
    have h3 : lowF h d n cols K ((L - 1 : Nat) : Int) = none := by
     cases hq : lowF h d n cols K ((L - 1 : Nat) : Int) with
     | none => rfl
     | some q => rw [hq] at h2; cases h2
    have h4 := lowF_none ok (by omega) (by omega) h3 hs hd
    omega
  refine ⟨a1, a2, ?_, fun x m hs hd => ?_⟩
  ·have := low k l a1 a2
   unfold factorN mnI
   split <;> omega
  ·have := low x m hs hd
   unfold factorN mnI
   split <;> omega
 ·rw [if_neg hle, Option.map_eq_some_iff] at hw
  obtain ⟨u, hu, he⟩ := hw
  simp only [Prod.mk.injEq] at he
  obtain ⟨rfl, rfl⟩ := he
  obtain ⟨a1, a2, a3⟩ := lowF_some (zero_ok ok) (by omega) (by omega) hu
  have low : ∀ x m, SurfB n cols K x m -> 1 <= sumH d x m -> factorN (sumH h x m) (sumH d x m) = 10000 := by
   intro x m hs hd
   have h2 := g3 10000 (by omega) (by omega)
   have h3 : lowF h d n cols K ((10000 : Nat) : Int) = none := by
    cases hq : lowF h d n cols K ((10000 : Nat) : Int) with
    | none => rfl
    | some q => rw [hq] at h2; cases h2
   have h4 := lowF_none ok (by omega) (by omega) h3 hs hd
   unfold factorN mnI
   split <;> omega
  exact ⟨a1, a2, low k l a1 a2, fun x m hs hd => by rw [low x m hs hd]; exact Int.le_refl _⟩
theorem worst_none (ok : HdOk h d n cols K) (hw : worstR h d n cols K = none) : ∀ x m, SurfB n cols K x m -> ¬ (1 <= sumH d x m) := by
 obtain ⟨g1, g2, g3, g4⟩ := firstN_is (p := fun f => (lowF h d n cols K f).isSome) 10000 1
 intro x m hs hd
 unfold worstR at hw
 unfold worstL at hw
 obtain ⟨L, hL⟩ : ∃ L, L = firstN (fun f => (lowF h d n cols K f).isSome) 1 10000 := ⟨_, rfl⟩
 rw [<- hL] at hw g1 g2 g3 g4
 by_cases hle : L <= 10000
 ·rw [if_pos hle, Option.map_eq_none_iff] at hw
  have := g4 (by omega)
  rw [hw] at this
  cases this
 ·rw [if_neg hle, Option.map_eq_none_iff] at hw
  have h0 : ∀ (l : List Nat) (k : Nat), sumH (fun _ _ => (0 : Int)) k l = 0 := by
   intro l
   induction l with
   | nil => intro k; rfl
   | cons b t ih => intro k; simp only [sumH]; have := ih (k + 1); omega
  have h4 := lowF_none (zero_ok ok) (by omega) (by omega) hw hs hd
  rw [h0] at h4
  simp at h4
theorem low_worst (ok : HdOk h d n cols K) (f0 : 0 <= f) (f1 : f <= 10000) : (lowF h d n cols K f).isSome = true ↔ ∃ u v, worstR h d n cols K = some (u, v) /\ v < f := by
 constructor
 ·intro hl
  obtain ⟨k, l, h1, h2, h3⟩ := (lowF_iff ok f0 (by omega)).1 hl
  cases hw : worstR h d n cols K with
  | none => exact absurd h2 (worst_none ok hw k l h1)
  | some z =>
   obtain ⟨⟨k', l'⟩, v⟩ := z
   refine ⟨_, _, rfl, ?_⟩
   have h4 := (worst_some ok hw).2.2.2 k l h1 h2
   have h5 := (factor_lt f1).2 h3
   omega
 ·rintro ⟨⟨k, l⟩, v, hw, hv⟩
  obtain ⟨h1, h2, h3, _⟩ := worst_some ok hw
  rw [lowF_iff ok f0 (by omega)]
  refine ⟨k, l, h1, h2, ?_⟩
  rw [<- factor_lt f1, h3]
  exact hv
end
section
variable {h d h' d' : Nat -> Nat -> Int} {n cols K n' cols' K' : Nat} {f g : Int}
theorem worst_none_iff (ok : HdOk h d n cols K) : worstR h d n cols K = none ↔ ∀ x m, SurfB n cols K x m -> ¬ (1 <= sumH d x m) := by
 refine ⟨worst_none ok, fun h1 => ?_⟩
 cases hw : worstR h d n cols K with
 | none => rfl
 | some z =>
  obtain ⟨⟨k, l⟩, v⟩ := z
  obtain ⟨a1, a2, _⟩ := worst_some ok hw
  exact absurd a2 (h1 k l a1)
theorem worst_le (ok : HdOk h d n cols K) (ok' : HdOk h' d' n' cols' K') (hs : ∀ k l, SurfB n cols K k l -> 1 <= sumH d k l -> SurfB n' cols' K' k l /\ 1 <= sumH d' k l /\ factorN (sumH h' k l) (sumH d' k l) <= factorN (sumH h k l) (sumH d k l))
  {u : Nat × List Nat} {v : Int} (hw : worstR h d n cols K = some (u, v)) : ∃ u' v', worstR h' d' n' cols' K' = some (u', v') /\ v' <= v := by
 obtain ⟨k, l⟩ := u
 obtain ⟨a1, a2, a3, _⟩ := worst_some ok hw
 obtain ⟨b1, b2, b3⟩ := hs k l a1 a2
 cases hw' : worstR h' d' n' cols' K' with
 | none => exact absurd b2 (worst_none ok' hw' k l b1)
 | some z =>
  obtain ⟨⟨k', l'⟩, v'⟩ := z
  have := (worst_some ok' hw').2.2.2 k l b1 b2
  exact ⟨_, _, rfl, by omega⟩
theorem sumH_le (hh : ∀ k b, h k b <= h' k b) : ∀ (l : List Nat) (k : Nat), sumH h k l <= sumH h' k l
 | [], _ => Int.le_refl _
 | b :: t, k => by
  have := hh k b
  have := sumH_le hh t (k + 1)
  simp only [sumH]
  omega
theorem factor_le {H D H' D' : Int} (h0 : 0 <= H') (h1 : H' <= H) (hd : 1 <= D) (h2 : D <= D') : factorN H' D' <= factorN H D := by
 have e1 : 1000 * H' / D' <= 1000 * H / D := by
  rw [Int.le_ediv_iff_mul_le (by omega)]
  have a1 := Int.ediv_mul_le (1000 * H') (b := D') (by omega)
  have a2 : 1000 * H' / D' * D <= 1000 * H' / D' * D' := Int.mul_le_mul_of_nonneg_left h2 (Int.ediv_nonneg (by omega) (by omega))
  omega
 unfold factorN mnI
 split <;> split <;> omega
theorem worst_weak (ok : HdOk h d n cols K) (ok' : HdOk h' d' n cols K) (hh : ∀ k b, h' k b <= h k b) (hd : ∀ k b, d k b <= d' k b) {u : Nat × List Nat} {v : Int} (hw : worstR h d n cols K = some (u, v)) : ∃ u' v', worstR h' d' n cols K = some (u', v') /\ v' <= v :=
 worst_le ok ok' (fun k l hs h1 => ⟨hs, Int.le_trans h1 (sumH_le hd l k), factor_le (sumH_nonneg ok'.h0 l k) (sumH_le hh l k) h1 (sumH_le hd l k)⟩) hw
theorem low_weak (ok : HdOk h d n cols K) (ok' : HdOk h' d n cols K) (hh : ∀ k b, h' k b <= h k b) (f0 : 0 <= f) (f1 : f <= 10001) (hl : (lowF h d n cols K f).isSome = true) : (lowF h' d n cols K f).isSome = true := by
 rw [lowF_iff ok f0 f1] at hl
 rw [lowF_iff ok' f0 f1]
 obtain ⟨k, l, a1, a2, a3⟩ := hl
 refine ⟨k, l, a1, a2, ?_⟩
 have h1 := sumH_le hh l k
 rw [Int.ediv_lt_iff_lt_mul (by omega)] at a3 ⊢
 omega
def marginN (hw : Nat -> Nat -> Nat -> Int) (d : Nat -> Nat -> Int) (n cols K : Nat) (f : Int) : Nat := firstN (fun m => (lowF (hw (m + 1)) d n cols K f).isSome) 0 100000
theorem margin_is {hw : Nat -> Nat -> Nat -> Int} (hl : lowF (hw 0) d n cols K f = none) :
  marginN hw d n cols K f <= 100000 /\ lowF (hw (marginN hw d n cols K f)) d n cols K f = none /\ (marginN hw d n cols K f < 100000 -> (lowF (hw (marginN hw d n cols K f + 1)) d n cols K f).isSome = true) := by
 obtain ⟨g1, g2, g3, g4⟩ := firstN_is (p := fun m => (lowF (hw (m + 1)) d n cols K f).isSome) 100000 0
 unfold marginN
 obtain ⟨L, hL⟩ : ∃ L, L = firstN (fun m => (lowF (hw (m + 1)) d n cols K f).isSome) 0 100000 := ⟨_, rfl⟩
 rw [<- hL] at g1 g2 g3 g4 ⊢
 refine ⟨by omega, ?_, fun h => g4 (by omega)⟩
 cases L with
 | zero => exact hl
 | succ L =>
  have := g3 L (Nat.zero_le _) (Nat.lt_succ_self L)
  cases hq : lowF (hw (L + 1)) d n cols K f with
  | none => rfl
  | some q => rw [hq] at this; cases this
theorem margin_unique {hw : Nat -> Nat -> Nat -> Int} (ok : ∀ m, HdOk (hw m) d n cols K) (ha : ∀ m k b, hw (m + 1) k b <= hw m k b) (f0 : 0 <= f) (f1 : f <= 10001) {m : Nat} (h1 : m <= 100000) (h2 : lowF (hw m) d n cols K f = none) (h3 : m < 100000 -> (lowF (hw (m + 1)) d n cols K f).isSome = true) : m = marginN hw d n cols K f := by
 have up : ∀ i j, (lowF (hw j) d n cols K f).isSome = true -> (lowF (hw (j + i)) d n cols K f).isSome = true := by
  intro i
  induction i with
  | zero => exact fun j h => h
  | succ i ih => exact fun j h => low_weak (ok (j + i)) (ok (j + i + 1)) (ha (j + i)) f0 f1 (ih j h)
 refine firstN_unique (Nat.zero_le _) (by omega) (fun j _ hj => ?_) (fun h => h3 (by omega))
 cases hq : (lowF (hw (j + 1)) d n cols K f).isSome with
 | false => rfl
 | true =>
  have := up (m - (j + 1)) (j + 1) hq
  rw [show j + 1 + (m - (j + 1)) = m by omega, h2] at this
  cases this
end
section
variable {c : Nat -> Nat -> Int} {n cols K : Nat} {big B far : Int} {t : Nat -> Nat -> Nat -> Int}
theorem way_snoc : ∀ (l : List Nat) (x : Nat), x < n -> wayB n l -> (∀ y, l.getLast? = some y -> y <= x + 1 /\ x <= y + 1) -> wayB n (l ++ [x])
 | [], x, hx, _, _ => ⟨hx, fun y hy => by simp at hy, trivial⟩
 | [b], x, hx, hw, hl => by
  have := hl b rfl
  exact ⟨hw.1, fun y hy => by simp at hy; omega, hx, fun y hy => by simp at hy, trivial⟩
 | b :: b' :: l, x, hx, hw, hl => by
  refine ⟨hw.1, fun y hy => hw.2.1 y (by simpa using hy), ?_⟩
  exact way_snoc (b' :: l) x hx hw.2.2 fun y hy => hl y (by rw [List.getLast?_cons_cons]; exact hy)
end
end

section
open Go.RowKit
structure Rg where
 lo : Int
 hi : Int
structure Bd where
 drive : Int
 normal : Int
 fr : Rg
 co : Rg
 wa : Rg
structure Rl where
 fr : Int
 co : Int
 wa : Int
structure Cl where
 beds : List Bd
 a : Option Addr
 cp : Nat
structure Sd where
 cols : List (List Bd)
 least : Int
structure Sm where
 cs : List Cl
 a : Option Addr
 c : Nat
 least : Int
def Sm.sd (s : Sm) : Sd := ⟨s.cs.map (·.beds), s.least⟩
abbrev rgL (r : Rg) : List Value := [vi r.lo, vi r.hi]
abbrev rgV (r : Rg) : Value := .agg #[vi r.lo, vi r.hi]
abbrev bdL (b : Bd) : List Value := [vi b.drive, vi b.normal, vi b.fr.lo, vi b.fr.hi, vi b.co.lo, vi b.co.hi, vi b.wa.lo, vi b.wa.hi]
abbrev bdC (b : Bd) : Array Value := #[vi b.drive, vi b.normal, vi b.fr.lo, vi b.fr.hi, vi b.co.lo, vi b.co.hi, vi b.wa.lo, vi b.wa.hi]
abbrev bdV (b : Bd) : Value := .agg (bdC b)
abbrev rlL (x : Rl) : List Value := [vi x.fr, vi x.co, vi x.wa]
abbrev rlC (x : Rl) : Array Value := #[vi x.fr, vi x.co, vi x.wa]
abbrev rlV (x : Rl) : Value := .agg (rlC x)
abbrev clL (x : Cl) : List Value := [.slice x.a x.beds.length x.cp]
abbrev clV (x : Cl) : Value := .slice x.a x.beds.length x.cp
abbrev smC (s : Sm) : Array Value := #[.slice s.a s.cs.length s.c, vi s.least]
abbrev smV (s : Sm) : Value := .agg (smC s)
structure SmOk (s : Sm) (W : World) : Prop where
 cs : Row clL 1 W W.heap.size s.a s.cs
 bd : ∀ x ∈ s.cs, Row bdL 8 W W.heap.size x.a x.beds
theorem SmOk.next {s : Sm} {W W' : World} (h : SmOk s W) (hb : newer W W') : SmOk s W' :=
 ⟨(h.cs.below hb).more hb.size, fun x hx => ((h.bd x hx).below hb).more hb.size⟩
theorem row8 {w : World} {B : Nat} {A : Option Addr} {l : List Bd} (h : Row bdL 8 w B A l) {k : Nat} {c : Bd} (hk : l[k]? = some c) :
  ∃ b off, A = some ⟨b, off, none⟩ /\ b < B /\ w.cell? ⟨b, off + k * 8, none⟩ = some (.int .i64 c.drive) /\ w.cell? ⟨b, off + k * 8 + 1, none⟩ = some (.int .i64 c.normal) /\ w.cell? ⟨b, off + k * 8 + 2, none⟩ = some (.int .i64 c.fr.lo) /\ w.cell? ⟨b, off + k * 8 + 3, none⟩ = some (.int .i64 c.fr.hi) /\
   w.cell? ⟨b, off + k * 8 + 4, none⟩ = some (.int .i64 c.co.lo) /\ w.cell? ⟨b, off + k * 8 + 5, none⟩ = some (.int .i64 c.co.hi) /\ w.cell? ⟨b, off + k * 8 + 6, none⟩ = some (.int .i64 c.wa.lo) /\ w.cell? ⟨b, off + k * 8 + 7, none⟩ = some (.int .i64 c.wa.hi) := by
 obtain ⟨b, off, e, hb, hc⟩ := h (ne_nil_of_get hk)
 exact ⟨b, off, e, hb, hc k c hk 0 _ rfl, hc k c hk 1 _ rfl, hc k c hk 2 _ rfl, hc k c hk 3 _ rfl, hc k c hk 4 _ rfl, hc k c hk 5 _ rfl, hc k c hk 6 _ rfl, hc k c hk 7 _ rfl⟩
theorem row3 {w : World} {B : Nat} {A : Option Addr} {l : List Rl} (h : Row rlL 3 w B A l) {k : Nat} {c : Rl} (hk : l[k]? = some c) :
  ∃ b off, A = some ⟨b, off, none⟩ /\ b < B /\ w.cell? ⟨b, off + k * 3, none⟩ = some (.int .i64 c.fr) /\ w.cell? ⟨b, off + k * 3 + 1, none⟩ = some (.int .i64 c.co) /\ w.cell? ⟨b, off + k * 3 + 2, none⟩ = some (.int .i64 c.wa) := by
 obtain ⟨b, off, e, hb, hc⟩ := h (ne_nil_of_get hk)
 exact ⟨b, off, e, hb, hc k c hk 0 _ rfl, hc k c hk 1 _ rfl, hc k c hk 2 _ rfl⟩
theorem rowC {w : World} {B : Nat} {A : Option Addr} {l : List Cl} (h : Row clL 1 w B A l) {k : Nat} {c : Cl} (hk : l[k]? = some c) :
  ∃ b off, A = some ⟨b, off, none⟩ /\ b < B /\ w.cell? ⟨b, off + k, none⟩ = some (.slice c.a c.beds.length c.cp) := by
 obtain ⟨b, off, e, hb, hc⟩ := h (ne_nil_of_get hk)
 exact ⟨b, off, e, hb, by simpa using hc k c hk 0 _ rfl⟩
def rgU (r : Rg) (most : Int) : Bool := decide (0 <= r.lo) && decide (r.lo <= r.hi) && decide (r.hi <= most)
def bdB (b : Bd) : Bool := inB b.drive (-100000) 100000 && inB b.normal 0 100000 && rgU b.fr 2000 && rgU b.co 100000 && rgU b.wa 100000
def Sd.n (s : Sd) : Nat := (s.cols.headD []).length
def Sd.K (s : Sd) : Nat := s.least.toNat
def slopeB (s : Sd) : Bool := inB s.cols.length 1 12 && inB s.n 1 5 && inB s.least 1 4 && s.cols.all fun l => decide (l.length = s.n) && l.all bdB
def holdsN (b : Bd) (x : Rl) : Int := mxI 0 (b.normal - x.wa) * x.fr / 1000 + x.co
def endR (hi : Bool) (b : Bd) : Rl := if hi then ⟨b.fr.hi, b.co.hi, b.wa.lo⟩ else ⟨b.fr.lo, b.co.lo, b.wa.hi⟩
def bedAt (cols : List (List Bd)) (k b : Nat) : Option Bd := match cols[k]? with
 | some l => l[b]?
 | none => none
def hAt (hi : Bool) (s : Sd) (k b : Nat) : Int := match bedAt s.cols k b with
 | some x => holdsN x (endR hi x)
 | none => 0
def dAt (s : Sd) (k b : Nat) : Int := match bedAt s.cols k b with
 | some x => x.drive
 | none => 0
structure SdOk (s : Sd) : Prop where
 cols : 1 <= s.cols.length /\ s.cols.length <= 12
 beds : 1 <= s.n /\ s.n <= 5
 least : 1 <= s.least /\ s.least <= 4
 len : ∀ l ∈ s.cols, l.length = s.n
 bd : ∀ l ∈ s.cols, ∀ b ∈ l, bdB b = true
theorem sdOk_iff {s : Sd} : slopeB s = true ↔ SdOk s := by
 unfold slopeB
 simp only [inB, Bool.and_eq_true, decide_eq_true_eq, List.all_eq_true]
 constructor
 ·rintro ⟨⟨⟨h1, h2⟩, h3⟩, h4⟩
  exact ⟨by omega, by omega, h3, fun l hl => (h4 l hl).1, fun l hl b hb => (h4 l hl).2 b hb⟩
 ·rintro ⟨h1, h2, h3, h4, h5⟩
  exact ⟨⟨⟨by omega, by omega⟩, h3⟩, fun l hl => ⟨h4 l hl, fun b hb => h5 l hl b hb⟩⟩
theorem bdB_parts {b : Bd} (h : bdB b = true) : (-100000 <= b.drive /\ b.drive <= 100000) /\ (0 <= b.normal /\ b.normal <= 100000) /\ (0 <= b.fr.lo /\ b.fr.lo <= b.fr.hi /\ b.fr.hi <= 2000) /\ (0 <= b.co.lo /\ b.co.lo <= b.co.hi /\ b.co.hi <= 100000) /\ (0 <= b.wa.lo /\ b.wa.lo <= b.wa.hi /\ b.wa.hi <= 100000) := by
 simp only [bdB, rgU, inB, Bool.and_eq_true, decide_eq_true_eq] at h
 omega
theorem holds_bd {b : Bd} {x : Rl} (hn : 0 <= b.normal /\ b.normal <= 100000) (h1 : 0 <= x.fr /\ x.fr <= 2000) (h2 : 0 <= x.co /\ x.co <= 100000) (h3 : 0 <= x.wa) : 0 <= mxI 0 (b.normal - x.wa) * x.fr /\ mxI 0 (b.normal - x.wa) * x.fr <= 200000000 /\ 0 <= holdsN b x /\ holdsN b x <= 300000 := by
 have hm : 0 <= mxI 0 (b.normal - x.wa) /\ mxI 0 (b.normal - x.wa) <= 100000 := by unfold mxI; split <;> omega
 have h4 := mul_bd hm.1 hm.2 h1.1 h1.2
 unfold holdsN
 omega
theorem end_bd {b : Bd} (h : bdB b = true) (hi : Bool) : 0 <= holdsN b (endR hi b) /\ holdsN b (endR hi b) <= 300000 := by
 obtain ⟨_, h2, h3, h4, h5⟩ := bdB_parts h
 have := holds_bd (b := b) (x := endR hi b) h2 (by cases hi <;> simp [endR] <;> omega) (by cases hi <;> simp [endR] <;> omega) (by cases hi <;> simp [endR] <;> omega)
 exact this.2.2
theorem bedAt_mem {cols : List (List Bd)} {k b : Nat} {x : Bd} (h : bedAt cols k b = some x) : ∃ l ∈ cols, cols[k]? = some l /\ l[b]? = some x /\ x ∈ l := by
 unfold bedAt at h
 split at h
 ·rename_i l hl
  exact ⟨l, List.mem_of_getElem? hl, hl, h, List.mem_of_getElem? h⟩
 ·cases h
theorem hd_ok {s : Sd} (h : SdOk s) (hi : Bool) : HdOk (hAt hi s) (dAt s) s.n s.cols.length s.K where
 h0 k b := by
  unfold hAt
  split
  ·rename_i x hx
   obtain ⟨l, hl, _, _, hb⟩ := bedAt_mem hx
   exact (end_bd (h.bd l hl x hb) hi).1
  ·exact Int.le_refl _
 h1 k b := by
  unfold hAt
  split
  ·rename_i x hx
   obtain ⟨l, hl, _, _, hb⟩ := bedAt_mem hx
   exact (end_bd (h.bd l hl x hb) hi).2
  ·omega
 d0 k b := by
  unfold dAt
  split
  ·rename_i x hx
   obtain ⟨l, hl, _, _, hb⟩ := bedAt_mem hx
   exact (bdB_parts (h.bd l hl x hb)).1.1
  ·omega
 d1 k b := by
  unfold dAt
  split
  ·rename_i x hx
   obtain ⟨l, hl, _, _, hb⟩ := bedAt_mem hx
   exact (bdB_parts (h.bd l hl x hb)).1.2
  ·omega
 n0 := h.beds.1
 K0 := by have := h.least; unfold Sd.K; omega
 few := by have := h.least; have := h.cols; unfold Sd.K; omega
def fitB (b : Bd) (x : Rl) : Bool := inB x.fr b.fr.lo b.fr.hi && inB x.co b.co.lo b.co.hi && inB x.wa b.wa.lo b.wa.hi
theorem div_mono {a b : Int} (h : a <= b) : a / 1000 <= b / 1000 := by omega
theorem holds_mono {b : Bd} {x y : Rl} (h0 : 0 <= x.fr) (h1 : x.fr <= y.fr) (h2 : x.co <= y.co) (h3 : y.wa <= x.wa) : holdsN b x <= holdsN b y := by
 have hm : 0 <= mxI 0 (b.normal - x.wa) /\ mxI 0 (b.normal - x.wa) <= mxI 0 (b.normal - y.wa) := by unfold mxI; split <;> split <;> omega
 have e1 : mxI 0 (b.normal - x.wa) * x.fr <= mxI 0 (b.normal - y.wa) * y.fr := Int.le_trans (Int.mul_le_mul_of_nonneg_right hm.2 h0) (Int.mul_le_mul_of_nonneg_left h1 (by omega))
 have := div_mono e1
 unfold holdsN
 omega
theorem fit_mono {b : Bd} {x : Rl} (hb : bdB b = true) (hx : fitB b x = true) : holdsN b (endR false b) <= holdsN b x /\ holdsN b x <= holdsN b (endR true b) := by
 obtain ⟨_, _, h3, h4, h5⟩ := bdB_parts hb
 simp only [fitB, inB, Bool.and_eq_true, decide_eq_true_eq] at hx
 exact ⟨holds_mono (by simp [endR]; omega) (by simp [endR]; omega) (by simp [endR]; omega) (by simp [endR]; omega), holds_mono (by omega) (by simp [endR]; omega) (by simp [endR]; omega) (by simp [endR]; omega)⟩
theorem fit_end {b : Bd} (hb : bdB b = true) (hi : Bool) : fitB b (endR hi b) = true := by
 obtain ⟨_, _, h3, h4, h5⟩ := bdB_parts hb
 cases hi <;> simp [fitB, inB, endR] <;> omega
def wetBd (m : Int) (b : Bd) : Bd := { b with wa := ⟨b.wa.lo, mnI 100000 (b.wa.hi + m)⟩ }
def wetS (s : Sd) (m : Int) : Sd := { s with cols := s.cols.map fun l => l.map (wetBd m) }
theorem wet_bd {m : Int} {b : Bd} (hm : 0 <= m) (h : bdB b = true) : bdB (wetBd m b) = true := by
 unfold bdB at h ⊢
 rw [Bool.and_eq_true] at h ⊢
 refine ⟨h.1, ?_⟩
 have h2 := h.2
 simp only [rgU, Bool.and_eq_true, decide_eq_true_eq] at h2
 have h1 : b.wa.hi <= mnI 100000 (b.wa.hi + m) /\ mnI 100000 (b.wa.hi + m) <= 100000 := by unfold mnI; split <;> omega
 show (decide (0 <= b.wa.lo) && decide (b.wa.lo <= mnI 100000 (b.wa.hi + m)) && decide (mnI 100000 (b.wa.hi + m) <= 100000)) = true
 simp only [Bool.and_eq_true, decide_eq_true_eq]
 omega
theorem wet_n (s : Sd) (m : Int) : (wetS s m).n = s.n := by
 unfold Sd.n wetS
 cases s.cols <;> simp
theorem wet_ok {s : Sd} {m : Int} (hm : 0 <= m) (h : SdOk s) : SdOk (wetS s m) where
 cols := by have := h.cols; simpa [wetS] using this
 beds := by rw [wet_n]; exact h.beds
 least := h.least
 len l hl := by
  obtain ⟨x, hx, rfl⟩ := List.mem_map.1 hl
  rw [wet_n, List.length_map]
  exact h.len x hx
 bd l hl b hb := by
  obtain ⟨x, hx, rfl⟩ := List.mem_map.1 hl
  obtain ⟨y, hy, rfl⟩ := List.mem_map.1 hb
  exact wet_bd hm (h.bd x hx y hy)
theorem bedAt_map {f : Bd -> Bd} {cols : List (List Bd)} {k b : Nat} : bedAt (cols.map fun l => l.map f) k b = (bedAt cols k b).map f := by
 unfold bedAt
 rw [List.getElem?_map]
 cases cols[k]? with
 | none => rfl
 | some l => simp
theorem wet_drive {s : Sd} {m : Int} : dAt (wetS s m) = dAt s := by
 funext k b
 unfold dAt wetS
 rw [bedAt_map]
 cases bedAt s.cols k b <;> rfl
theorem wet_hold {s : Sd} (h : SdOk s) {m m' : Int} (hmm : m <= m') (k b : Nat) : hAt false (wetS s m') k b <= hAt false (wetS s m) k b := by
 unfold hAt wetS
 rw [bedAt_map, bedAt_map]
 cases hx : bedAt s.cols k b with
 | none => exact Int.le_refl _
 | some x =>
  obtain ⟨l, hl, _, _, hb⟩ := bedAt_mem hx
  obtain ⟨_, _, h3, _⟩ := bdB_parts (h.bd l hl x hb)
  have e : holdsN (wetBd m' x) (endR false (wetBd m' x)) <= holdsN (wetBd m x) (endR false (wetBd m x)) := by
   have e1 : ∀ z, holdsN (wetBd m' x) z = holdsN (wetBd m x) z := fun _ => rfl
   rw [e1]
   refine holds_mono (by simp [endR, wetBd]; omega) (by simp [endR, wetBd]) (by simp [endR, wetBd]) ?_
   simp only [endR, wetBd, mnI, Bool.false_eq_true, if_false]
   split <;> split <;> omega
  exact e
theorem wet_zero {s : Sd} (h : SdOk s) : wetS s 0 = s := by
 obtain ⟨cols, least⟩ := s
 unfold wetS
 congr 1
 have : ∀ l ∈ cols, l.map (wetBd 0) = l := fun l hl => by
  have : ∀ b ∈ l, wetBd 0 b = b := fun b hb => by
   obtain ⟨_, _, _, _, h5⟩ := bdB_parts (h.bd l hl b hb)
   obtain ⟨d, n, fr, co, wa⟩ := b
   obtain ⟨lo, hi⟩ := wa
   have e : mnI 100000 hi = hi := by
    dsimp only at h5
    unfold mnI
    split <;> omega
   simp only [wetBd, Int.add_zero, e]
  exact (List.map_congr_left this).trans (List.map_id l)
 exact (List.map_congr_left this).trans (List.map_id cols)
end

section
open Go.RowKit Go.Deep
set_option maxHeartbeats 400000 in
theorem within_any (n lo hi : Int) (w : World) :
  Calls Tryz.prog 73 #[.int .i64 n, .int .i64 lo, .int .i64 hi] w fun e w' => e = .returned (.bool (inB n lo hi)) /\ w = w' := by
 by_cases h1 : lo <= n <;> by_cases h2 : n <= hi <;>
 (go_enter Tryz.func73, Tryz.ntmps73
  go_wp2
  go_ret
  exact ⟨by simp [inB, h1, h2], rfl⟩)
set_option maxHeartbeats 400000 in
theorem in_any (n lo hi : Int) (w : World) :
  Calls Tryz.prog 24 #[.int .i64 n, .int .i64 lo, .int .i64 hi] w fun e w' => e = .returned (.bool (inB n lo hi)) /\ w = w' := by
 by_cases h1 : lo <= n <;> by_cases h2 : n <= hi <;>
 (go_enter Tryz.func24, Tryz.ntmps24
  go_wp2
  go_ret
  exact ⟨by simp [inB, h1, h2], rfl⟩)
set_option maxHeartbeats 400000 in
theorem low_any (r : Rg) (w : World) : Calls Tryz.prog 76 #[rgV r] w fun e w' => e = .returned (vi r.lo) /\ newer w w' := by
 go_enter Tryz.func76, Tryz.ntmps76
 go_wp2
 go_ret
 exact ⟨rfl, (Below.refl _ _).alloc (Nat.le_refl _) _⟩
set_option maxHeartbeats 400000 in
theorem high_any (r : Rg) (w : World) : Calls Tryz.prog 77 #[rgV r] w fun e w' => e = .returned (vi r.hi) /\ newer w w' := by
 go_enter Tryz.func77, Tryz.ntmps77
 go_wp2
 go_ret
 exact ⟨rfl, (Below.refl _ _).alloc (Nat.le_refl _) _⟩
def endG (hi : Bool) : Nat := if hi then 77 else 76
def endI (hi : Bool) (r : Rg) : Int := if hi then r.hi else r.lo
theorem end_any (hi : Bool) (r : Rg) (w : World) : Calls Tryz.prog (endG hi) #[rgV r] w fun e w' => e = .returned (vi (endI hi r)) /\ newer w w' := by
 cases hi
 ·exact low_any r w
 ·exact high_any r w
set_option maxHeartbeats 400000 in
theorem up_any (r : Rg) (most : Int) (w : World) : Calls Tryz.prog 102 #[rgV r, vi most] w fun e w' => e = .returned (.bool (rgU r most)) /\ newer w w' := by
 obtain ⟨lo, hi⟩ := r
 unfold rgU
 dsimp only
 by_cases h1 : 0 <= lo
 ·by_cases h2 : lo <= hi
  ·by_cases h3 : hi <= most
   all_goals
    (go_enter Tryz.func102, Tryz.ntmps102
     go_wp2
     go_ret
     exact ⟨ret_bool (by simp <;> omega), (Below.refl _ _).alloc (Nat.le_refl _) _⟩)
  ·go_enter Tryz.func102, Tryz.ntmps102
   go_wp2
   go_ret
   exact ⟨ret_bool (by simp <;> omega), (Below.refl _ _).alloc (Nat.le_refl _) _⟩
 ·go_enter Tryz.func102, Tryz.ntmps102
  go_wp2
  go_ret
  exact ⟨ret_bool (by simp <;> omega), (Below.refl _ _).alloc (Nat.le_refl _) _⟩
set_option maxHeartbeats 400000 in
theorem has_any (r : Rg) (n : Int) (w : World) : Calls Tryz.prog 51 #[rgV r, vi n] w fun e w' => e = .returned (.bool (inB n r.lo r.hi)) /\ newer w w' := by
 go_enter Tryz.func51, Tryz.ntmps51
 go_wp2_with (go_at_call 73; refine (within_any _ _ _ _).mono ?_; rintro e w' ⟨rfl, rfl⟩)
 go_ret
 exact ⟨rfl, (Below.refl _ _).alloc (Nat.le_refl _) _⟩
set_option maxHeartbeats 400000 in
theorem beside_any (a b : Int) (w : World) (ha : -1000000 <= a /\ a <= 1000000) (hb : -1000000 <= b /\ b <= 1000000) : Calls Tryz.prog 92 #[vi a, vi b] w fun e w' => e = .returned (.bool (inB (a - b) (-1) 1)) /\ w = w' := by
 go_enter Tryz.func92, Tryz.ntmps92
 go_wp2_with (go_at_call 73; refine (within_any _ _ _ _).mono ?_; rintro e w' ⟨rfl, rfl⟩)
 go_ret
 exact ⟨rfl, rfl⟩
set_option maxHeartbeats 1000000 in
theorem bdValid_any (b : Bd) (w : World) : Calls Tryz.prog 91 #[bdV b] w fun e w' => e = .returned (.bool (bdB b)) /\ newer w w' := by
 obtain ⟨drive, normal, fr, co, wa⟩ := b
 unfold bdB
 dsimp only
 have hnw := newer_allocH w (.cells #[vi drive, vi normal, vi fr.lo, vi fr.hi, vi co.lo, vi co.hi, vi wa.lo, vi wa.hi] 91)
 have HN := Lib.hid hnw
 clear hnw
 obtain ⟨q1, h1⟩ : ∃ q, q = inB drive (-100000) 100000 := ⟨_, rfl⟩
 obtain ⟨q2, h2⟩ : ∃ q, q = inB normal 0 100000 := ⟨_, rfl⟩
 obtain ⟨q3, h3⟩ : ∃ q, q = rgU fr 2000 := ⟨_, rfl⟩
 obtain ⟨q4, h4⟩ : ∃ q, q = rgU co 100000 := ⟨_, rfl⟩
 obtain ⟨q5, h5⟩ : ∃ q, q = rgU wa 100000 := ⟨_, rfl⟩
 have H := Lib.hid (And.intro h1 (And.intro h2 (And.intro h3 (And.intro h4 h5))))
 have C1 := Lib.hid (fun W => within_any drive (-100000) 100000 W)
 have C2 := Lib.hid (fun W => within_any normal 0 100000 W)
 have C3 := Lib.hid (fun W => up_any fr 2000 W)
 have C4 := Lib.hid (fun W => up_any co 100000 W)
 have C5 := Lib.hid (fun W => up_any wa 100000 W)
 rw [<- h1] at C1 ⊢
 rw [<- h2] at C2 ⊢
 rw [<- h3] at C3 ⊢
 rw [<- h4] at C4 ⊢
 rw [<- h5] at C5 ⊢
 clear h1 h2 h3 h4 h5 H
 have hnw := HN.out
 have hbx := Whole.made w 91 #[vi drive, vi normal, vi fr.lo, vi fr.hi, vi co.lo, vi co.hi, vi wa.lo, vi wa.hi]
 have H1 := Lib.hid (And.intro (hnw) (hbx))
 clear hnw hbx HN
 have x0 := H1.out.2.at 0 (v := vi drive) rfl
 have x1 := H1.out.2.at 1 (v := vi normal) rfl
 have x2 := H1.out.2.at 2 (v := vi fr.lo) rfl
 have x3 := H1.out.2.at 3 (v := vi fr.hi) rfl
 have x4 := H1.out.2.at 4 (v := vi co.lo) rfl
 have x5 := H1.out.2.at 5 (v := vi co.hi) rfl
 have x6 := H1.out.2.at 6 (v := vi wa.lo) rfl
 have x7 := H1.out.2.at 7 (v := vi wa.hi) rfl
 go_enter Tryz.func91, Tryz.ntmps91
 go_wp2_with fail
 refine (C1.out _).mono ?_
 rintro e w' ⟨rfl, rfl⟩
 cases q1 with
 | false =>
  go_wp2_with fail
  go_ret
  exact ⟨rfl, H1.out.1⟩
 | true =>
  go_wp2_with fail
  refine (C2.out _).mono ?_
  rintro e w' ⟨rfl, rfl⟩
  cases q2 with
  | false =>
   go_wp2_with fail
   go_ret
   exact ⟨rfl, H1.out.1⟩
  | true =>
   go_wp2_with fail
   refine (C3.out _).mono ?_
   rintro e w2 ⟨rfl, hb⟩
   have H3 := Lib.hid (And.intro ((newer_trans H1.out.1 hb)) ((H1.out.2.below hb H1.out.2.lt)))
   clear hb H1 x0 x1 x2 x3 x4 x5 x6 x7
   have x0 := H3.out.2.at 0 (v := vi drive) rfl
   have x1 := H3.out.2.at 1 (v := vi normal) rfl
   have x2 := H3.out.2.at 2 (v := vi fr.lo) rfl
   have x3 := H3.out.2.at 3 (v := vi fr.hi) rfl
   have x4 := H3.out.2.at 4 (v := vi co.lo) rfl
   have x5 := H3.out.2.at 5 (v := vi co.hi) rfl
   have x6 := H3.out.2.at 6 (v := vi wa.lo) rfl
   have x7 := H3.out.2.at 7 (v := vi wa.hi) rfl
   cases q3 with
   | false =>
    go_wp2_with fail
    go_ret
    exact ⟨rfl, H3.out.1⟩
   | true =>
    go_wp2_with fail
    refine (C4.out _).mono ?_
    rintro e w4 ⟨rfl, hb⟩
    have H5 := Lib.hid (And.intro ((newer_trans H3.out.1 hb)) ((H3.out.2.below hb H3.out.2.lt)))
    clear hb H3 x0 x1 x2 x3 x4 x5 x6 x7
    have x0 := H5.out.2.at 0 (v := vi drive) rfl
    have x1 := H5.out.2.at 1 (v := vi normal) rfl
    have x2 := H5.out.2.at 2 (v := vi fr.lo) rfl
    have x3 := H5.out.2.at 3 (v := vi fr.hi) rfl
    have x4 := H5.out.2.at 4 (v := vi co.lo) rfl
    have x5 := H5.out.2.at 5 (v := vi co.hi) rfl
    have x6 := H5.out.2.at 6 (v := vi wa.lo) rfl
    have x7 := H5.out.2.at 7 (v := vi wa.hi) rfl
    cases q4 with
    | false =>
     go_wp2_with fail
     go_ret
     exact ⟨rfl, H5.out.1⟩
    | true =>
     go_wp2_with fail
     refine (C5.out _).mono ?_
     rintro e w6 ⟨rfl, hb⟩
     have H7 := Lib.hid (And.intro ((newer_trans H5.out.1 hb)) ((H5.out.2.below hb H5.out.2.lt)))
     clear hb H5 x0 x1 x2 x3 x4 x5 x6 x7
     go_wp2_with fail
     go_ret
     exact ⟨rfl, H7.out.1⟩
set_option maxHeartbeats 400000 in
theorem notBd_any (x : Bd) (rb : Nat) (b : Bool) (w : World) (hr : w.cell? ⟨rb, 0, none⟩ = some (.func (.func 91) #[] #[]))
  (hf : ∀ W, Below w.heap.size w W -> Calls Tryz.prog 91 #[bdV x] W fun e w' => e = .returned (.bool b) /\ Below W.heap.size W w') :
  Calls Tryz.prog 101 #[bdV x, .pointer (some ⟨rb, 0, none⟩)] w fun e w' => e = .returned (.bool (!b)) /\ Below w.heap.size w w' := by
 have HF := Lib.hid hf
 have hlt := World.block_lt_of_cell? w _ hr
 dsimp only at hlt
 clear hf
 go_enter Tryz.func101, Tryz.ntmps101
 go_wp2_with (go_at_call 91; refine (HF.out _ ((Below.refl _ _).alloc (Nat.le_refl _) _)).mono ?_; rintro e w' ⟨rfl, hb⟩)
 go_ret
 exact ⟨rfl, below_step ((Below.refl _ _).alloc (Nat.le_refl _) _) hb (by simp)⟩
set_option maxHeartbeats 400000 in
theorem idxBd_any (l : List Bd) (p : Bd -> Bool) (cp rb : Nat) (A : Option Addr) (w : World) (hn : l.length <= 1000) (hrow : Row bdL 8 w w.heap.size A l)
  (hf : ∀ c ∈ l, ∀ W, Below w.heap.size w W -> Calls Tryz.prog 101 #[bdV c, .pointer (some ⟨rb, 0, none⟩)] W fun e w' => e = .returned (.bool (p c)) /\ Below W.heap.size W w') :
  Calls Tryz.prog 105 #[.slice A l.length cp, .func (.func 101) #[] #[.pointer (some ⟨rb, 0, none⟩)]] w fun e w' => e = .returned (.int .i64 (idx p l)) /\ Below w.heap.size w w' := by
 have HF := Lib.hid hf
 clear hf
 obtain ⟨n, hnl⟩ : ∃ n, n = l.length := ⟨_, rfl⟩
 rw [<- hnl] at hn ⊢
 have HN := Lib.hid hnl
 clear hnl
 go_enter Tryz.func105, Tryz.ntmps105
 go_wp2
 go_loopw [4, 5, 8] (fun _ _ i wr => ∃ k : Nat, k <= n /\ i = .int .i64 k /\ Below w.heap.size w wr /\ early p l k) (fun _ _ i _ => n - (intOf i).toNat)
 case atStart => exact ⟨0, Nat.zero_le _, rfl, Below.refl _ _, early_zero _ _⟩
 case round =>
  obtain ⟨k, hk, rfl, hbw, he⟩ := hrel
  have HE := Lib.hid he
  clear he
  by_cases hlt : k < n
  ·obtain ⟨c, hc⟩ := get_of_lt (l := l) (k := k) (by have := HN.out; omega)
   obtain ⟨b, off, rfl, hb, h0, h1, h2, h3, h4, h5, h6, h7⟩ := row8 (hrow.below hbw) hc
   have HC := Lib.hid hc
   clear hc
   cases hp : p c
   ·go_wp2_with (go_at_call 101; refine (HF.out c (List.mem_of_getElem? HC.out) _ hbw).mono ?_; rintro e w' ⟨rfl, hb2⟩)
    go_roundw
    case rel => exact ⟨k + 1, by omega, by go_num, below_next hbw hb2, early_succ HE.out HC.out hp⟩
    case measure => simp [intOf]; omega
   ·go_wp2_with (go_at_call 101; refine (HF.out c (List.mem_of_getElem? HC.out) _ hbw).mono ?_; rintro e w' ⟨rfl, hb2⟩)
    go_ret
    exact ⟨ret_int (idx_here p l k c HC.out hp HE.out).symm, below_next hbw hb2⟩
  ·go_wp2_with fail
   go_ret
   have hkn : k = l.length := by have := HN.out; omega
   exact ⟨ret_int (idx_none p l (hkn ▸ HE.out)).symm, hbw⟩
set_option maxHeartbeats 400000 in
theorem containsBd_any (l : List Bd) (p : Bd -> Bool) (cp rb : Nat) (A : Option Addr) (w : World) (hn : l.length <= 1000) (hrow : Row bdL 8 w w.heap.size A l)
  (hf : ∀ c ∈ l, ∀ W, Below w.heap.size w W -> Calls Tryz.prog 101 #[bdV c, .pointer (some ⟨rb, 0, none⟩)] W fun e w' => e = .returned (.bool (p c)) /\ Below W.heap.size W w') :
  Calls Tryz.prog 100 #[.slice A l.length cp, .func (.func 101) #[] #[.pointer (some ⟨rb, 0, none⟩)]] w fun e w' => e = .returned (.bool (decide (0 <= idx p l))) /\ Below w.heap.size w w' := by
 have HF := Lib.hid hf
 clear hf
 go_enter Tryz.func100, Tryz.ntmps100
 go_wp2_with (go_at_call 105; refine (idxBd_any l p cp rb A _ hn hrow HF.out).mono ?_; rintro e w' ⟨rfl, hb2⟩)
 go_ret
 exact ⟨rfl, hb2⟩
set_option maxHeartbeats 400000 in
theorem allBd_any (l : List Bd) (p : Bd -> Bool) (cp : Nat) (A : Option Addr) (w : World) (hn : l.length <= 1000) (hrow : Row bdL 8 w w.heap.size A l)
  (hf : ∀ c ∈ l, ∀ W, Below w.heap.size w W -> Calls Tryz.prog 91 #[bdV c] W fun e w' => e = .returned (.bool (p c)) /\ Below W.heap.size W w') :
  Calls Tryz.prog 90 #[.slice A l.length cp, .func (.func 91) #[] #[]] w fun e w' => e = .returned (.bool (l.all p)) /\ Below w.heap.size w w' := by
 have hX := containsBd_any l (fun c => !p c) cp w.heap.size A (w.alloc (.cells #[.func (.func 91) #[] #[]] 164)) hn (hrow_ok hrow _) (fun c hc W hW => notBd_any c w.heap.size (p c) W (keep_cell (Whole.at (Whole.made w 164 #[.func (.func 91) #[] #[]]) 0 rfl) hW) fun W' hW' => hf c hc W' (below_next (below_next ((Below.refl _ _).alloc (Nat.le_refl _) _) hW) hW'))
 have HX := Lib.hid hX
 clear hX hf
 go_enter Tryz.func90, Tryz.ntmps90
 go_wp2_with (go_at_call 100; refine (HX.out).mono ?_; rintro e w' ⟨rfl, hb2⟩)
 go_ret
 exact ⟨ret_bool (idx_all p l), below_next ((Below.refl _ _).alloc (Nat.le_refl _) _) hb2⟩
set_option maxHeartbeats 400000 in
theorem notCl_any (x : Cl) (rb : Nat) (b : Bool) (w : World) (nb : Nat) (hr : w.cell? ⟨rb, 0, none⟩ = some (.func (.func 89) #[] #[.pointer (some ⟨nb, 0, none⟩)]))
  (hf : ∀ W, Below w.heap.size w W -> Calls Tryz.prog 89 #[clV x, .pointer (some ⟨nb, 0, none⟩)] W fun e w' => e = .returned (.bool b) /\ Below W.heap.size W w') :
  Calls Tryz.prog 99 #[clV x, .pointer (some ⟨rb, 0, none⟩)] w fun e w' => e = .returned (.bool (!b)) /\ Below w.heap.size w w' := by
 have HF := Lib.hid hf
 have hlt := World.block_lt_of_cell? w _ hr
 dsimp only at hlt
 clear hf
 go_enter Tryz.func99, Tryz.ntmps99
 go_wp2_with (go_at_call 89; refine (HF.out _ (Below.refl _ _)).mono ?_; rintro e w' ⟨rfl, hb⟩)
 go_ret
 exact ⟨rfl, hb⟩
set_option maxHeartbeats 400000 in
theorem idxCl_any (l : List Cl) (p : Cl -> Bool) (cp rb : Nat) (A : Option Addr) (w : World) (hn : l.length <= 1000) (hrow : Row clL 1 w w.heap.size A l)
  (hf : ∀ c ∈ l, ∀ W, Below w.heap.size w W -> Calls Tryz.prog 99 #[clV c, .pointer (some ⟨rb, 0, none⟩)] W fun e w' => e = .returned (.bool (p c)) /\ Below W.heap.size W w') :
  Calls Tryz.prog 104 #[.slice A l.length cp, .func (.func 99) #[] #[.pointer (some ⟨rb, 0, none⟩)]] w fun e w' => e = .returned (.int .i64 (idx p l)) /\ Below w.heap.size w w' := by
 have HF := Lib.hid hf
 clear hf
 obtain ⟨n, hnl⟩ : ∃ n, n = l.length := ⟨_, rfl⟩
 rw [<- hnl] at hn ⊢
 have HN := Lib.hid hnl
 clear hnl
 go_enter Tryz.func104, Tryz.ntmps104
 go_wp2
 go_loopw [4, 5, 8] (fun _ _ i wr => ∃ k : Nat, k <= n /\ i = .int .i64 k /\ Below w.heap.size w wr /\ early p l k) (fun _ _ i _ => n - (intOf i).toNat)
 case atStart => exact ⟨0, Nat.zero_le _, rfl, Below.refl _ _, early_zero _ _⟩
 case round =>
  obtain ⟨k, hk, rfl, hbw, he⟩ := hrel
  have HE := Lib.hid he
  clear he
  by_cases hlt : k < n
  ·obtain ⟨c, hc⟩ := get_of_lt (l := l) (k := k) (by have := HN.out; omega)
   obtain ⟨b, off, rfl, hb, h0⟩ := rowC (hrow.below hbw) hc
   have HC := Lib.hid hc
   clear hc
   cases hp : p c
   ·go_wp2_with (go_at_call 99; refine (HF.out c (List.mem_of_getElem? HC.out) _ hbw).mono ?_; rintro e w' ⟨rfl, hb2⟩)
    go_roundw
    case rel => exact ⟨k + 1, by omega, by go_num, below_next hbw hb2, early_succ HE.out HC.out hp⟩
    case measure => simp [intOf]; omega
   ·go_wp2_with (go_at_call 99; refine (HF.out c (List.mem_of_getElem? HC.out) _ hbw).mono ?_; rintro e w' ⟨rfl, hb2⟩)
    go_ret
    exact ⟨ret_int (idx_here p l k c HC.out hp HE.out).symm, below_next hbw hb2⟩
  ·go_wp2_with fail
   go_ret
   have hkn : k = l.length := by have := HN.out; omega
   exact ⟨ret_int (idx_none p l (hkn ▸ HE.out)).symm, hbw⟩
set_option maxHeartbeats 400000 in
theorem containsCl_any (l : List Cl) (p : Cl -> Bool) (cp rb : Nat) (A : Option Addr) (w : World) (hn : l.length <= 1000) (hrow : Row clL 1 w w.heap.size A l)
  (hf : ∀ c ∈ l, ∀ W, Below w.heap.size w W -> Calls Tryz.prog 99 #[clV c, .pointer (some ⟨rb, 0, none⟩)] W fun e w' => e = .returned (.bool (p c)) /\ Below W.heap.size W w') :
  Calls Tryz.prog 98 #[.slice A l.length cp, .func (.func 99) #[] #[.pointer (some ⟨rb, 0, none⟩)]] w fun e w' => e = .returned (.bool (decide (0 <= idx p l))) /\ Below w.heap.size w w' := by
 have HF := Lib.hid hf
 clear hf
 go_enter Tryz.func98, Tryz.ntmps98
 go_wp2_with (go_at_call 104; refine (idxCl_any l p cp rb A _ hn hrow HF.out).mono ?_; rintro e w' ⟨rfl, hb2⟩)
 go_ret
 exact ⟨rfl, hb2⟩
set_option maxHeartbeats 400000 in
theorem allCl_any (l : List Cl) (p : Cl -> Bool) (cp : Nat) (A : Option Addr) (w : World) (nb : Nat) (hn : l.length <= 1000) (hrow : Row clL 1 w w.heap.size A l)
  (hf : ∀ c ∈ l, ∀ W, Below w.heap.size w W -> Calls Tryz.prog 89 #[clV c, .pointer (some ⟨nb, 0, none⟩)] W fun e w' => e = .returned (.bool (p c)) /\ Below W.heap.size W w') :
  Calls Tryz.prog 88 #[.slice A l.length cp, .func (.func 89) #[] #[.pointer (some ⟨nb, 0, none⟩)]] w fun e w' => e = .returned (.bool (l.all p)) /\ Below w.heap.size w w' := by
 have hX := containsCl_any l (fun c => !p c) cp w.heap.size A (w.alloc (.cells #[.func (.func 89) #[] #[.pointer (some ⟨nb, 0, none⟩)]] 165)) hn (hrow_ok hrow _) (fun c hc W hW => notCl_any c w.heap.size (p c) W nb (keep_cell (Whole.at (Whole.made w 165 #[.func (.func 89) #[] #[.pointer (some ⟨nb, 0, none⟩)]]) 0 rfl) hW) fun W' hW' => hf c hc W' (below_next (below_next ((Below.refl _ _).alloc (Nat.le_refl _) _) hW) hW'))
 have HX := Lib.hid hX
 clear hX hf
 go_enter Tryz.func88, Tryz.ntmps88
 go_wp2_with (go_at_call 98; refine (HX.out).mono ?_; rintro e w' ⟨rfl, hb2⟩)
 go_ret
 exact ⟨ret_bool (idx_all p l), below_next ((Below.refl _ _).alloc (Nat.le_refl _) _) hb2⟩
structure SmFew (s : Sm) : Prop where
 cs : s.cs.length <= 1000
 bd : ∀ x ∈ s.cs, x.beds.length <= 1000
set_option maxHeartbeats 1000000 in
theorem colValid_any (x : Cl) (n : Nat) (nb : Nat) (w : World) (hn : x.beds.length <= 1000) (hc : w.cell? ⟨nb, 0, none⟩ = some (vi n)) (hrow : Row bdL 8 w w.heap.size x.a x.beds) :
  Calls Tryz.prog 89 #[clV x, .pointer (some ⟨nb, 0, none⟩)] w fun e w' => e = .returned (.bool (decide (x.beds.length = n) && x.beds.all bdB)) /\ newer w w' := by
 have HA := Lib.hid (allBd_any x.beds bdB x.cp x.a w hn hrow fun c _ W _ => bdValid_any c W)
 by_cases h : x.beds.length = n
 ·have e1 : ((x.beds.length : Int) == n) = true := by rw [beq_iff_eq]; omega
  rw [decide_eq_true h]
  clear h hn
  go_enter Tryz.func89, Tryz.ntmps89
  go_wp2_with fail
  refine (HA.out).mono ?_
  rintro e w1 ⟨rfl, hb⟩
  have HB := Lib.hid hb
  clear hb HA
  go_wp2_with fail
  go_ret
  exact ⟨rfl, HB.out⟩
 ·have e1 : ((x.beds.length : Int) == n) = false := by rw [beq_eq_false_iff_ne]; omega
  rw [decide_eq_false h]
  clear h hn
  go_enter Tryz.func89, Tryz.ntmps89
  go_wp2_with fail
  go_ret
  exact ⟨rfl, Below.refl _ _⟩
theorem sd_n {s : Sm} {x : Cl} (h : s.cs[0]? = some x) : s.sd.n = x.beds.length := by
 unfold Sm.sd Sd.n
 cases hs : s.cs with
 | nil => rw [hs] at h; simp at h
 | cons y l =>
  rw [hs] at h
  have e : y = x := by simpa using h
  subst e
  rfl
theorem sd_len (s : Sm) : s.sd.cols.length = s.cs.length := by simp [Sm.sd]
theorem sd_all (s : Sm) (p : List Bd -> Bool) : s.sd.cols.all p = s.cs.all fun x => p x.beds := by simp [Sm.sd, List.all_map, Function.comp_def]
set_option maxRecDepth 100000 in
set_option maxHeartbeats 2000000 in
theorem valid_any (s : Sm) (w : World) (hok : SmOk s w) (few : SmFew s) : Calls Tryz.prog 71 #[smV s] w fun e w' => e = .returned (.bool (slopeB s.sd)) /\ newer w w' := by
 have hnw := newer_allocH w (.cells (smC s) 48)
 have hbx := Whole.made w 48 (smC s)
 have HOK := Lib.hid hok
 have HF := Lib.hid few
 unfold slopeB
 rw [sd_len, sd_all, show s.sd.least = s.least from rfl]
 have C1 := Lib.hid (fun W => within_any s.cs.length 1 12 W)
 have C3 := Lib.hid (fun W => within_any s.least 1 4 W)
 obtain ⟨q1, h1⟩ : ∃ q, q = inB s.cs.length 1 12 := ⟨_, rfl⟩
 obtain ⟨q3, h3⟩ : ∃ q, q = inB s.least 1 4 := ⟨_, rfl⟩
 have HQ1 := Lib.hid h1
 rw [<- h1] at C1 ⊢
 rw [<- h3] at C3 ⊢
 clear h1 h3 hok few
 have H1 := Lib.hid (And.intro (hnw) (hbx))
 clear hnw hbx
 have x0 := H1.out.2.at 0 (v := .slice s.a s.cs.length s.c) rfl
 have x1 := H1.out.2.at 1 (v := vi s.least) rfl
 cases q1 with
 | false =>
  go_enter Tryz.func71, Tryz.ntmps71
  go_wp2_with fail
  refine (C1.out _).mono ?_
  rintro e w' ⟨rfl, rfl⟩
  go_wp2_with fail
  go_ret
  exact ⟨rfl, H1.out.1⟩
 | true =>
  have hl1 : inB s.cs.length 1 12 = true := HQ1.out.symm
  simp only [inB, Bool.and_eq_true, decide_eq_true_eq] at hl1
  obtain ⟨x, hx⟩ := get_of_lt (l := s.cs) (k := 0) (by omega)
  have HX := Lib.hid hx
  rw [sd_n hx]
  have hne : ¬ (s.cs = []) := by intro h; rw [h] at hl1; simp at hl1
  have hl0 : (0 : Int) < s.cs.length := by omega
  have C2 := Lib.hid (fun W => within_any x.beds.length 1 5 W)
  obtain ⟨q2, h2⟩ : ∃ q, q = inB x.beds.length 1 5 := ⟨_, rfl⟩
  rw [<- h2] at C2 ⊢
  clear h2 hx hl1
  obtain ⟨b2, o2, e2, _, cx⟩ := rowC (HOK.out.next H1.out.1).cs HX.out
  rw [e2] at x0
  simp only [Nat.add_zero] at cx
  clear hne e2
  go_enter Tryz.func71, Tryz.ntmps71
  go_wp2_with fail
  refine (C1.out _).mono ?_
  rintro e w' ⟨rfl, rfl⟩
  go_wp2_with fail
  refine (C2.out _).mono ?_
  rintro e w' ⟨rfl, rfl⟩
  cases q2 with
  | false =>
   go_wp2_with fail
   go_ret
   exact ⟨rfl, H1.out.1⟩
  | true =>
   go_wp2_with fail
   refine (C3.out _).mono ?_
   rintro e w' ⟨rfl, rfl⟩
   cases q3 with
   | false =>
    go_wp2_with fail
    go_ret
    exact ⟨rfl, H1.out.1⟩
   | true =>
    go_upto_region 4 with fail
    refine genQ (fun X => newer w X /\ Whole X w.heap.size 48 (smC s) /\ Whole X (w.heap.size + 1) 3 #[vi x.beds.length]) ⟨(newer_trans H1.out.1 (newer_allocH (w.alloc (.cells (smC s) 48)) (.cells #[vi x.beds.length] 3))), (H1.out.2.below (newer_allocH (w.alloc (.cells (smC s) 48)) (.cells #[vi x.beds.length] 3)) H1.out.2.lt), (by have h := Whole.made (w.alloc (.cells (smC s) 48)) 3 #[vi x.beds.length]; rw [World.size_alloc] at h; exact h)⟩ ?_
    obtain ⟨nb, hnb⟩ : ∃ nb, nb = w.heap.size + 1 := ⟨_, rfl⟩
    rw [<- hnb]
    clear hnb
    rintro w2 ⟨g0_, g1_, g2_⟩
    have H3 := Lib.hid (And.intro (g0_) (And.intro (g1_) (g2_)))
    clear g0_ g1_ g2_ H1 x0 x1 cx hl0
    have x0 := H3.out.2.1.at 0 (v := .slice s.a s.cs.length s.c) rfl
    have x1 := H3.out.2.1.at 1 (v := vi s.least) rfl
    have HAL := Lib.hid (allCl_any s.cs (fun z => decide (z.beds.length = x.beds.length) && z.beds.all bdB) s.c s.a w2 nb HF.out.cs (HOK.out.next H3.out.1).cs fun z hz V hV => colValid_any z x.beds.length nb V (HF.out.bd z hz) ((H3.out.2.2.below hV H3.out.2.2.lt).at 0 rfl) ((HOK.out.next (newer_trans H3.out.1 hV)).bd z hz))
    go_wp2_with fail
    refine (HAL.out).mono ?_
    rintro e w4 ⟨rfl, hb⟩
    have H5 := Lib.hid (And.intro ((newer_trans H3.out.1 hb)) (And.intro ((H3.out.2.1.below hb H3.out.2.1.lt)) ((H3.out.2.2.below hb H3.out.2.2.lt))))
    clear hb HAL H3 x0 x1
    go_wp2_with fail
    go_ret
    exact ⟨rfl, H5.out.1⟩
end

section
open Go.RowKit Go.Deep
set_option maxHeartbeats 1000000 in
theorem holds_any (b : Bd) (x : Rl) (w : World) (hn : 0 <= b.normal /\ b.normal <= 100000) (h1 : 0 <= x.fr /\ x.fr <= 2000) (h2 : 0 <= x.co /\ x.co <= 100000) (h3 : 0 <= x.wa /\ x.wa <= 100000) :
  Calls Tryz.prog 74 #[bdV b, rlV x] w fun e w' => e = .returned (vi (holdsN b x)) /\ newer w w' := by
 have hp := holds_bd (b := b) (x := x) hn h1 h2 h3.1
 obtain ⟨drive, normal, fr, co, wa⟩ := b
 obtain ⟨xf, xc, xw⟩ := x
 unfold holdsN at hp ⊢
 dsimp only at hn h1 h2 h3 hp ⊢
 have HN := Lib.hid (newer_trans (newer_allocH w (.cells #[vi drive, vi normal, vi fr.lo, vi fr.hi, vi co.lo, vi co.hi, vi wa.lo, vi wa.hi] 91)) (newer_allocH (w.alloc (.cells #[vi drive, vi normal, vi fr.lo, vi fr.hi, vi co.lo, vi co.hi, vi wa.lo, vi wa.hi] 91)) (.cells #[vi xf, vi xc, vi xw] 131)))
 by_cases hd : 0 < normal - xw
 ·have e : mxI 0 (normal - xw) = normal - xw := by unfold mxI; rw [if_pos hd]
  rw [e] at hp ⊢
  have hd2 : xw < normal := by omega
  clear e
  go_enter Tryz.func74, Tryz.ntmps74
  go_wp2_with fail
  all_goals first
   | (exfalso; omega)
   | (go_ret; exact ⟨rfl, HN.out⟩)
 ·have e : mxI 0 (normal - xw) = 0 := by unfold mxI; rw [if_neg hd]
  rw [e] at hp ⊢
  have hd2 : ¬ xw < normal := by omega
  simp only [Int.zero_mul, Int.zero_ediv, Int.zero_add] at hp ⊢
  clear e
  go_enter Tryz.func74, Tryz.ntmps74
  go_wp2_with fail
  all_goals first
   | (exfalso; omega)
   | (go_ret; exact ⟨rfl, HN.out⟩)
theorem call_end (g : Bool) (args : Array Value) (W : World) : (callFunc (endG g) args).run Tryz.prog W = .ok (.enter (endG g) args) W := by
 cases g <;> simp [endG, go_sem]
theorem endR_is (hs : Bool) (b : Bd) : (⟨endI hs b.fr, endI hs b.co, endI (!hs) b.wa⟩ : Rl) = endR hs b := by cases hs <;> rfl
set_option maxRecDepth 100000 in
set_option maxHeartbeats 2000000 in
theorem real_any (hs : Bool) (b : Bd) (w : World) : Calls Tryz.prog 75 #[bdV b, .func (.func (endG hs)) #[] #[], .func (.func (endG (!hs))) #[] #[]] w fun e w' => e = .returned (rlV (endR hs b)) /\ newer w w' := by
 have hnw := newer_trans (newer_allocH w (.cells (bdC b) 91)) (newer_allocH (w.alloc (.cells (bdC b) 91)) (.cells #[vi 0, vi 0, vi 0] 131))
 have hbx := (Whole.made w 91 (bdC b)).alloc (.cells #[vi 0, vi 0, vi 0] 131)
 have hrb := Whole.made (w.alloc (.cells (bdC b) 91)) 131 #[vi 0, vi 0, vi 0]
 simp only [World.size_alloc] at hrb
 rw [<- endR_is]
 have H1 := Lib.hid (And.intro (hnw) (And.intro (hbx) (hrb)))
 clear hnw hbx hrb
 have x0 := H1.out.2.1.at 0 (v := vi b.drive) rfl
 have x1 := H1.out.2.1.at 1 (v := vi b.normal) rfl
 have x2 := H1.out.2.1.at 2 (v := vi b.fr.lo) rfl
 have x3 := H1.out.2.1.at 3 (v := vi b.fr.hi) rfl
 have x4 := H1.out.2.1.at 4 (v := vi b.co.lo) rfl
 have x5 := H1.out.2.1.at 5 (v := vi b.co.hi) rfl
 have x6 := H1.out.2.1.at 6 (v := vi b.wa.lo) rfl
 have x7 := H1.out.2.1.at 7 (v := vi b.wa.hi) rfl
 go_enter Tryz.func75, Tryz.ntmps75
 go_upto_region 1 with fail
 refine wp_words (by kernel_rfl) (region_told 13 (by kernel_rfl) (by kernel_rfl) (fun W => Below ((w.alloc (.cells (bdC b) 91)).alloc (.cells #[vi 0, vi 0, vi 0] 131)).heap.size ((w.alloc (.cells (bdC b) 91)).alloc (.cells #[vi 0, vi 0, vi 0] 131)) W) newer (pickD [vIs (.func (.func (endG hs)) #[] #[]), vIs (.pointer (some ⟨w.heap.size, 2, none⟩)), vIs (rgV b.fr), vIs (vi (endI hs b.fr)), vIs (.func (.func (endG hs)) #[] #[]), vIs (.pointer (some ⟨w.heap.size, 4, none⟩)), vIs (rgV b.co), vIs (vi (endI hs b.co)), vIs (.func (.func (endG (!hs))) #[] #[]), vIs (.pointer (some ⟨w.heap.size, 6, none⟩)), vIs (rgV b.wa), vIs (vi (endI (!hs) b.wa)), vIs (.agg #[vi (endI hs b.fr), vi (endI hs b.co), vi (endI (!hs) b.wa)])]) (fun h k => newer_trans h k) (pickD_stable _ ⟨vIs_st, vIs_st, vIs_st, vIs_st, vIs_st, vIs_st, vIs_st, vIs_st, vIs_st, vIs_st, vIs_st, vIs_st, vIs_st, trivial⟩) (Below.refl _ ((w.alloc (.cells (bdC b) 91)).alloc (.cells #[vi 0, vi 0, vi 0] 131))).drew (Below.refl _ _) ?_ ?_)
 ·refine ⟨?_, ?_, ?_, ?_, ?_, ?_, ?_, ?_, ?_, ?_, ?_, ?_, ?_, trivial⟩
  ·intro a W hG hR hO hp; have h1 := hO.slot 1 (by kernel_rfl); refine wp_yields (v := .func (.func (endG hs)) #[] #[]) ?_ ⟨_, rfl, rfl, Below.refl _ _, hG⟩; simp [slotOf] at h1; simp [execOp, go_sem, h1]
  ·intro a W hG hR hO hp; have h3 := hO.slot 3 (by kernel_rfl); refine wp_yields (v := .pointer (some ⟨w.heap.size, 2, none⟩)) ?_ ⟨_, rfl, rfl, Below.refl _ _, hG⟩; simp [slotOf] at h3; simp [execOp, go_sem, h3]
  ·intro a W hG hR hO hp; have h8 : slotOf a 8 = .pointer (some ⟨w.heap.size, 2, none⟩) := hp.1; have c0 := keep_cell x2 hG; have c1 := keep_cell x3 hG; refine wp_yields (v := rgV b.fr) ?_ ⟨_, rfl, rfl, Below.refl _ _, hG⟩; simp [slotOf] at h8; simp [execOp, go_sem, h8, c0, c1]
  ·intro a W hG hR hO hp
   have h7 : slotOf a 7 = .func (.func (endG hs)) #[] #[] := hp.1
   have h9 : slotOf a 9 = rgV b.fr := hp.2.1
   refine wp_enters (f := (endG hs)) (args := #[rgV b.fr]) ?_ ((end_any hs b.fr W).mono ?_)
   ·simp [slotOf] at h7 h9
    simp [execOp, go_sem, h7, h9, call_end]
   ·rintro e w' ⟨rfl, hb⟩
    exact ⟨_, rfl, _, rfl, rfl, hb, below_next hG hb⟩
  ·intro a W hG hR hO hp; have h1 := hO.slot 1 (by kernel_rfl); refine wp_yields (v := .func (.func (endG hs)) #[] #[]) ?_ ⟨_, rfl, rfl, Below.refl _ _, hG⟩; simp [slotOf] at h1; simp [execOp, go_sem, h1]
  ·intro a W hG hR hO hp; have h3 := hO.slot 3 (by kernel_rfl); refine wp_yields (v := .pointer (some ⟨w.heap.size, 4, none⟩)) ?_ ⟨_, rfl, rfl, Below.refl _ _, hG⟩; simp [slotOf] at h3; simp [execOp, go_sem, h3]
  ·intro a W hG hR hO hp; have h12 : slotOf a 12 = .pointer (some ⟨w.heap.size, 4, none⟩) := hp.1; have c0 := keep_cell x4 hG; have c1 := keep_cell x5 hG; refine wp_yields (v := rgV b.co) ?_ ⟨_, rfl, rfl, Below.refl _ _, hG⟩; simp [slotOf] at h12; simp [execOp, go_sem, h12, c0, c1]
  ·intro a W hG hR hO hp
   have h11 : slotOf a 11 = .func (.func (endG hs)) #[] #[] := hp.1
   have h13 : slotOf a 13 = rgV b.co := hp.2.1
   refine wp_enters (f := (endG hs)) (args := #[rgV b.co]) ?_ ((end_any hs b.co W).mono ?_)
   ·simp [slotOf] at h11 h13
    simp [execOp, go_sem, h11, h13, call_end]
   ·rintro e w' ⟨rfl, hb⟩
    exact ⟨_, rfl, _, rfl, rfl, hb, below_next hG hb⟩
  ·intro a W hG hR hO hp; have h2 := hO.slot 2 (by kernel_rfl); refine wp_yields (v := .func (.func (endG (!hs))) #[] #[]) ?_ ⟨_, rfl, rfl, Below.refl _ _, hG⟩; simp [slotOf] at h2; simp [execOp, go_sem, h2]
  ·intro a W hG hR hO hp; have h3 := hO.slot 3 (by kernel_rfl); refine wp_yields (v := .pointer (some ⟨w.heap.size, 6, none⟩)) ?_ ⟨_, rfl, rfl, Below.refl _ _, hG⟩; simp [slotOf] at h3; simp [execOp, go_sem, h3]
  ·intro a W hG hR hO hp; have h16 : slotOf a 16 = .pointer (some ⟨w.heap.size, 6, none⟩) := hp.1; have c0 := keep_cell x6 hG; have c1 := keep_cell x7 hG; refine wp_yields (v := rgV b.wa) ?_ ⟨_, rfl, rfl, Below.refl _ _, hG⟩; simp [slotOf] at h16; simp [execOp, go_sem, h16, c0, c1]
  ·intro a W hG hR hO hp
   have h15 : slotOf a 15 = .func (.func (endG (!hs))) #[] #[] := hp.1
   have h17 : slotOf a 17 = rgV b.wa := hp.2.1
   refine wp_enters (f := (endG (!hs))) (args := #[rgV b.wa]) ?_ ((end_any (!hs) b.wa W).mono ?_)
   ·simp [slotOf] at h15 h17
    simp [execOp, go_sem, h15, h17, call_end]
   ·rintro e w' ⟨rfl, hb⟩
    exact ⟨_, rfl, _, rfl, rfl, hb, below_next hG hb⟩
  ·intro a W hG hR hO hp; have h10 : slotOf a 10 = vi (endI hs b.fr) := hp.1; have h14 : slotOf a 14 = vi (endI hs b.co) := hp.2.1; have h18 : slotOf a 18 = vi (endI (!hs) b.wa) := hp.2.2.1; refine wp_yields (v := .agg #[vi (endI hs b.fr), vi (endI hs b.co), vi (endI (!hs) b.wa)]) ?_ ⟨_, rfl, rfl, Below.refl _ _, hG⟩; simp [slotOf] at h10 h14 h18; simp [execOp, go_sem, h10, h14, h18]
 ·intro wz hG hR
  rintro _ rfl _ rfl _ rfl _ rfl _ rfl _ rfl _ rfl _ rfl _ rfl _ rfl _ rfl _ rfl _ rfl
  change wpList _ _ _ _ _ _
  simp only [Act.put, List.setIfInBounds_toArray, List.set_cons_zero, List.set_cons_succ, List.drop_succ_cons, List.drop_zero]
  clear hR
  have H2 := Lib.hid (And.intro ((newer_trans H1.out.1 hG)) (And.intro ((H1.out.2.1.below hG H1.out.2.1.lt)) ((H1.out.2.2.below hG H1.out.2.2.lt))))
  clear hG H1 x0 x1 x2 x3 x4 x5 x6 x7
  have f0 := H2.out.2.2.free 0
  have f1 := H2.out.2.2.free 1
  have f2 := H2.out.2.2.free 2
  have r0 := H2.out.2.2.at 0 (v := vi 0) rfl
  have r1 := H2.out.2.2.at 1 (v := vi 0) rfl
  have r2 := H2.out.2.2.at 2 (v := vi 0) rfl
  go_wp2_with fail
  have HZ := Lib.hid (And.intro (((H2.out.1.setCell (p := ⟨w.heap.size + 1, 0, none⟩) (Nat.le_succ _) (vi (endI hs b.fr))).setCell (p := ⟨w.heap.size + 1, 1, none⟩) (Nat.le_succ _) (vi (endI hs b.co))).setCell (p := ⟨w.heap.size + 1, 2, none⟩) (Nat.le_succ _) (vi (endI (!hs) b.wa))) (((H2.out.2.2.set 0 (vi (endI hs b.fr))).set 1 (vi (endI hs b.co))).set 2 (vi (endI (!hs) b.wa))))
  have z0 := HZ.out.2.at 0 (v := vi (endI hs b.fr)) rfl
  have z1 := HZ.out.2.at 1 (v := vi (endI hs b.co)) rfl
  have z2 := HZ.out.2.at 2 (v := vi (endI (!hs) b.wa)) rfl
  exact bodyPost_ret (v := .agg #[vi (endI hs b.fr), vi (endI hs b.co), vi (endI (!hs) b.wa)]) (by simp [results, Tryz.results75, go_sem, z0, z1, z2]) rfl ⟨rfl, HZ.out.1⟩
set_option maxHeartbeats 1000000 in
theorem least_any (b : Bd) (w : World) : Calls Tryz.prog 57 #[bdV b] w fun e w' => e = .returned (rlV (endR false b)) /\ newer w w' := by
 have hnw := newer_trans (newer_allocH w (.cells (bdC b) 91)) (newer_allocH (w.alloc (.cells (bdC b) 91)) (.cells #[vi 0, vi 0, vi 0] 131))
 have hbx := (Whole.made w 91 (bdC b)).alloc (.cells #[vi 0, vi 0, vi 0] 131)
 have hrb := Whole.made (w.alloc (.cells (bdC b) 91)) 131 #[vi 0, vi 0, vi 0]
 simp only [World.size_alloc] at hrb
 obtain ⟨x, hx⟩ : ∃ x, x = endR false b := ⟨_, rfl⟩
 have HA := Lib.hid (fun W => real_any false b W)
 rw [<- hx] at HA ⊢
 clear hx
 have H1 := Lib.hid (And.intro (hnw) (And.intro (hbx) (hrb)))
 clear hnw hbx hrb
 have x0 := H1.out.2.1.at 0 (v := vi b.drive) rfl
 have x1 := H1.out.2.1.at 1 (v := vi b.normal) rfl
 have x2 := H1.out.2.1.at 2 (v := vi b.fr.lo) rfl
 have x3 := H1.out.2.1.at 3 (v := vi b.fr.hi) rfl
 have x4 := H1.out.2.1.at 4 (v := vi b.co.lo) rfl
 have x5 := H1.out.2.1.at 5 (v := vi b.co.hi) rfl
 have x6 := H1.out.2.1.at 6 (v := vi b.wa.lo) rfl
 have x7 := H1.out.2.1.at 7 (v := vi b.wa.hi) rfl
 go_enter Tryz.func57, Tryz.ntmps57
 go_wp2_with fail
 refine (HA.out _).mono ?_
 rintro e w2 ⟨rfl, hb⟩
 have H3 := Lib.hid (And.intro ((newer_trans H1.out.1 hb)) (And.intro ((H1.out.2.1.below hb H1.out.2.1.lt)) ((H1.out.2.2.below hb H1.out.2.2.lt))))
 clear hb HA H1 x0 x1 x2 x3 x4 x5 x6 x7
 have f0 := H3.out.2.2.free 0
 have f1 := H3.out.2.2.free 1
 have f2 := H3.out.2.2.free 2
 have r0 := H3.out.2.2.at 0 (v := vi 0) rfl
 have r1 := H3.out.2.2.at 1 (v := vi 0) rfl
 have r2 := H3.out.2.2.at 2 (v := vi 0) rfl
 go_wp2_with fail
 have HZ := Lib.hid (And.intro (((H3.out.1.setCell (p := ⟨w.heap.size + 1, 0, none⟩) (Nat.le_succ _) (vi x.fr)).setCell (p := ⟨w.heap.size + 1, 1, none⟩) (Nat.le_succ _) (vi x.co)).setCell (p := ⟨w.heap.size + 1, 2, none⟩) (Nat.le_succ _) (vi x.wa)) (((H3.out.2.2.set 0 (vi x.fr)).set 1 (vi x.co)).set 2 (vi x.wa)))
 have z0 := HZ.out.2.at 0 (v := vi x.fr) rfl
 have z1 := HZ.out.2.at 1 (v := vi x.co) rfl
 have z2 := HZ.out.2.at 2 (v := vi x.wa) rfl
 exact bodyPost_ret (v := .agg #[vi x.fr, vi x.co, vi x.wa]) (by simp [results, Tryz.results57, go_sem, z0, z1, z2]) rfl ⟨rfl, HZ.out.1⟩
end

section
open Go.RowKit Go.Deep
def trF (t : Option Bool) : Nat := match t with
 | some false => 57
 | some true => 57
 | none => 57
def trR (t : Option Bool) (b : Bd) : Rl := match t with
 | some _ => endR false b
 | none => endR false b
def hT (t : Option Bool) (s : Sd) (k b : Nat) : Int := match t with
 | some _ => hAt false s k b
 | none => hAt false s k b
theorem tr_any (t : Option Bool) (b : Bd) (w : World) : Calls Tryz.prog (trF t) #[bdV b] w fun e w' => e = .returned (rlV (trR t b)) /\ newer w w' := by
 match t with
 | some false => exact least_any b w
 | some true => exact least_any b w
 | none => exact least_any b w
theorem call_tr (t : Option Bool) (args : Array Value) (W : World) : (callFunc (trF t) args).run Tryz.prog W = .ok (.enter (trF t) args) W := by
 match t with
 | some false => simp [trF, go_sem]
 | some true => simp [trF, go_sem]
 | none => simp [trF, go_sem]
theorem tr_bd (t : Option Bool) {b : Bd} (h : bdB b = true) : (0 <= (trR t b).fr /\ (trR t b).fr <= 2000) /\ (0 <= (trR t b).co /\ (trR t b).co <= 100000) /\ (0 <= (trR t b).wa /\ (trR t b).wa <= 100000) := by
 obtain ⟨_, _, h3, h4, h5⟩ := bdB_parts h
 match t with
 | some false => simp only [trR, endR, Bool.false_eq_true, if_false]; omega
 | some true => simp only [trR, endR, Bool.false_eq_true, if_false]; omega
 | none => simp only [trR, endR, Bool.false_eq_true, if_false]; omega
abbrev lkC (s : Sm) (f : Int) (t : Option Bool) : Array Value := #[.slice s.a s.cs.length s.c, vi s.least, vi f, .func (.func (trF t)) #[] #[]]
abbrev lkV (s : Sm) (f : Int) (t : Option Bool) : Value := .agg (lkC s f t)
def costB (f : Int) (t : Option Bool) (b : Bd) : Int := 1000 * holdsN b (trR t b) - f * b.drive
set_option maxRecDepth 100000 in
set_option maxHeartbeats 2000000 in
theorem cost_any (s : Sm) (f : Int) (t : Option Bool) (k j : Nat) (x : Cl) (b : Bd) (w : World) (hok : SmOk s w) (hx : s.cs[k]? = some x) (hb : x.beds[j]? = some b) (hbd : bdB b = true) (f0 : 0 <= f) (f1 : f <= 10001) :
  Calls Tryz.prog 78 #[lkV s f t, vi k, vi j] w fun e w' => e = .returned (vi (costB f t b)) /\ newer w w' := by
 have hnw := newer_allocH w (.cells (lkC s f t) 97)
 have hbx := Whole.made w 97 (lkC s f t)
 have HOK := Lib.hid hok
 have HX := Lib.hid hx
 have HB := Lib.hid hb
 have HBD := Lib.hid hbd
 have hkl : (k : Int) < s.cs.length := by have := (List.getElem?_eq_some_iff.1 hx).1; omega
 have hjl : (j : Int) < x.beds.length := by have := (List.getElem?_eq_some_iff.1 hb).1; omega
 unfold costB
 obtain ⟨y, hy⟩ : ∃ y, y = trR t b := ⟨_, rfl⟩
 obtain ⟨h, hh⟩ : ∃ h, h = holdsN b y := ⟨_, rfl⟩
 have htb := tr_bd t hbd
 have hhb := holds_bd (b := b) (x := y) (bdB_parts hbd).2.1 (by rw [hy]; exact htb.1) (by rw [hy]; exact htb.2.1) (by rw [hy]; exact htb.2.2.1)
 have HT := Lib.hid (fun W => tr_any t b W)
 have HH := Lib.hid (fun W => holds_any b y W (bdB_parts hbd).2.1 (by rw [hy]; exact htb.1) (by rw [hy]; exact htb.2.1) (by rw [hy]; exact htb.2.2))
 rw [<- hh] at HH hhb
 rw [<- hy] at HT ⊢
 rw [<- hh]
 have hdr := (bdB_parts hbd).1
 have m1 := Int.mul_le_mul_of_nonneg_left hdr.1 f0
 have m2 := Int.mul_le_mul_of_nonneg_left hdr.2 f0
 obtain ⟨fd, hfd⟩ : ∃ fd, fd = f * b.drive := ⟨_, rfl⟩
 rw [<- hfd] at m1 m2 ⊢
 have c23 : IntKind.i64.wrap (1000 * h) = 1000 * h := IntWalk.i64_in _ (by omega)
 have c28 : IntKind.i64.wrap (f * b.drive) = fd := by rw [<- hfd]; exact IntWalk.i64_in _ (by omega)
 have c29 : IntKind.i64.wrap (1000 * h - fd) = 1000 * h - fd := IntWalk.i64_in _ (by omega)
 have HC := Lib.hid (And.intro c23 (And.intro c28 c29))
 clear hok hx hb hbd htb hhb hdr m1 m2 hfd hy hh c23 c28 c29
 have H1 := Lib.hid (And.intro (hnw) (hbx))
 clear hnw hbx
 have x0 := H1.out.2.at 0 (v := .slice s.a s.cs.length s.c) rfl
 have x1 := H1.out.2.at 1 (v := vi s.least) rfl
 have x2 := H1.out.2.at 2 (v := vi f) rfl
 have x3 := H1.out.2.at 3 (v := .func (.func (trF t)) #[] #[]) rfl
 obtain ⟨b1, o1, e1, _, cx⟩ := rowC (HOK.out.next H1.out.1).cs HX.out
 obtain ⟨b2, o2, e2, _, d0, d1, d2, d3, d4, d5, d6, d7⟩ := row8 ((HOK.out.next H1.out.1).bd x (List.mem_of_getElem? HX.out)) HB.out
 rw [e1] at x0
 rw [e2] at cx
 clear e1 e2
 go_enter Tryz.func78, Tryz.ntmps78
 go_upto_region 2 with fail
 refine genQ (fun X => newer w X /\ Whole X w.heap.size 97 (lkC s f t) /\ Whole X (w.heap.size + 1) 91 (bdC b)) ⟨(newer_trans H1.out.1 (newer_allocH (w.alloc (.cells (lkC s f t) 97)) (.cells (bdC b) 91))), (H1.out.2.below (newer_allocH (w.alloc (.cells (lkC s f t) 97)) (.cells (bdC b) 91)) H1.out.2.lt), (by have h := Whole.made (w.alloc (.cells (lkC s f t) 97)) 91 (bdC b); rw [World.size_alloc] at h; exact h)⟩ ?_
 rintro w2 ⟨g0_, g1_, g2_⟩
 have H3 := Lib.hid (And.intro (g0_) (And.intro (g1_) (g2_)))
 clear g0_ g1_ g2_ H1 x0 x1 x2 x3 cx d0 d1 d2 d3 d4 d5 d6 d7
 have z0 := H3.out.2.2.at 0 (v := vi b.drive) rfl
 have z1 := H3.out.2.2.at 1 (v := vi b.normal) rfl
 have z2 := H3.out.2.2.at 2 (v := vi b.fr.lo) rfl
 have z3 := H3.out.2.2.at 3 (v := vi b.fr.hi) rfl
 have z4 := H3.out.2.2.at 4 (v := vi b.co.lo) rfl
 have z5 := H3.out.2.2.at 5 (v := vi b.co.hi) rfl
 have z6 := H3.out.2.2.at 6 (v := vi b.wa.lo) rfl
 have z7 := H3.out.2.2.at 7 (v := vi b.wa.hi) rfl
 have x2 := H3.out.2.1.at 2 (v := vi f) rfl
 have x3 := H3.out.2.1.at 3 (v := .func (.func (trF t)) #[] #[]) rfl
 refine wp_words (by kernel_rfl) (region_told 13 (by kernel_rfl) (by kernel_rfl) (fun W => Below w2.heap.size w2 W) newer (pickD [vIs (bdV b), vIs (.pointer (some ⟨w.heap.size, 3, none⟩)), vIs (.func (.func (trF t)) #[] #[]), vIs (bdV b), vIs (rlV y), vIs (vi h), vIs (vi (1000 * h)), vIs (.pointer (some ⟨w.heap.size, 2, none⟩)), vIs (vi f), vIs (.pointer (some ⟨(w.heap.size + 1), 0, none⟩)), vIs (vi b.drive), vIs (vi fd), vIs (vi (1000 * h - fd))]) (fun h k => newer_trans h k) (pickD_stable _ ⟨vIs_st, vIs_st, vIs_st, vIs_st, vIs_st, vIs_st, vIs_st, vIs_st, vIs_st, vIs_st, vIs_st, vIs_st, vIs_st, trivial⟩) (Below.refl _ w2).drew (Below.refl _ _) ?_ ?_)
 ·refine ⟨?_, ?_, ?_, ?_, ?_, ?_, ?_, ?_, ?_, ?_, ?_, ?_, ?_, trivial⟩
  ·intro a W hG hR hO hp; have h7 := hO.slot 7 (by kernel_rfl); have c0 := keep_cell z0 hG; have c1 := keep_cell z1 hG; have c2 := keep_cell z2 hG; have c3 := keep_cell z3 hG; have c4 := keep_cell z4 hG; have c5 := keep_cell z5 hG; have c6 := keep_cell z6 hG; have c7 := keep_cell z7 hG; refine wp_yields (v := bdV b) ?_ ⟨_, rfl, rfl, Below.refl _ _, hG⟩; simp [slotOf] at h7; simp [execOp, go_sem, h7, c0, c1, c2, c3, c4, c5, c6, c7]
  ·intro a W hG hR hO hp; have h3 := hO.slot 3 (by kernel_rfl); refine wp_yields (v := .pointer (some ⟨w.heap.size, 3, none⟩)) ?_ ⟨_, rfl, rfl, Below.refl _ _, hG⟩; simp [slotOf] at h3; simp [execOp, go_sem, h3]
  ·intro a W hG hR hO hp; have h18 : slotOf a 18 = .pointer (some ⟨w.heap.size, 3, none⟩) := hp.1; have c0 := keep_cell x3 hG; refine wp_yields (v := .func (.func (trF t)) #[] #[]) ?_ ⟨_, rfl, rfl, Below.refl _ _, hG⟩; simp [slotOf] at h18; simp [execOp, go_sem, h18, c0]
  ·intro a W hG hR hO hp; have h7 := hO.slot 7 (by kernel_rfl); have c0 := keep_cell z0 hG; have c1 := keep_cell z1 hG; have c2 := keep_cell z2 hG; have c3 := keep_cell z3 hG; have c4 := keep_cell z4 hG; have c5 := keep_cell z5 hG; have c6 := keep_cell z6 hG; have c7 := keep_cell z7 hG; refine wp_yields (v := bdV b) ?_ ⟨_, rfl, rfl, Below.refl _ _, hG⟩; simp [slotOf] at h7; simp [execOp, go_sem, h7, c0, c1, c2, c3, c4, c5, c6, c7]
  ·intro a W hG hR hO hp
   have h19 : slotOf a 19 = .func (.func (trF t)) #[] #[] := hp.1
   have h20 : slotOf a 20 = bdV b := hp.2.1
   refine wp_enters (f := (trF t)) (args := #[bdV b]) ?_ ((HT.out W).mono ?_)
   ·simp [slotOf] at h19 h20
    simp [execOp, go_sem, h19, h20, call_tr]
   ·rintro e w' ⟨rfl, hb⟩
    exact ⟨_, rfl, _, rfl, rfl, hb, below_next hG hb⟩
  ·intro a W hG hR hO hp
   have h17 : slotOf a 17 = bdV b := hp.1
   have h21 : slotOf a 21 = rlV y := hp.2.1
   refine wp_enters (f := 74) (args := #[bdV b, rlV y]) ?_ ((HH.out W).mono ?_)
   ·simp [slotOf] at h17 h21
    simp [go_sem, h17, h21]
   ·rintro e w' ⟨rfl, hb⟩
    exact ⟨_, rfl, _, rfl, rfl, hb, below_next hG hb⟩
  ·intro a W hG hR hO hp; have h22 : slotOf a 22 = vi h := hp.1; refine wp_yields (v := vi (1000 * h)) ?_ ⟨_, rfl, rfl, Below.refl _ _, hG⟩; simp [slotOf] at h22; simp [execOp, go_sem, h22, HC.out.1]
  ·intro a W hG hR hO hp; have h3 := hO.slot 3 (by kernel_rfl); refine wp_yields (v := .pointer (some ⟨w.heap.size, 2, none⟩)) ?_ ⟨_, rfl, rfl, Below.refl _ _, hG⟩; simp [slotOf] at h3; simp [execOp, go_sem, h3]
  ·intro a W hG hR hO hp; have h24 : slotOf a 24 = .pointer (some ⟨w.heap.size, 2, none⟩) := hp.1; have c0 := keep_cell x2 hG; refine wp_yields (v := vi f) ?_ ⟨_, rfl, rfl, Below.refl _ _, hG⟩; simp [slotOf] at h24; simp [execOp, go_sem, h24, c0]
  ·intro a W hG hR hO hp; have h7 := hO.slot 7 (by kernel_rfl); refine wp_yields (v := .pointer (some ⟨(w.heap.size + 1), 0, none⟩)) ?_ ⟨_, rfl, rfl, Below.refl _ _, hG⟩; simp [slotOf] at h7; simp [execOp, go_sem, h7]
  ·intro a W hG hR hO hp; have h26 : slotOf a 26 = .pointer (some ⟨(w.heap.size + 1), 0, none⟩) := hp.1; have c0 := keep_cell z0 hG; refine wp_yields (v := vi b.drive) ?_ ⟨_, rfl, rfl, Below.refl _ _, hG⟩; simp [slotOf] at h26; simp [execOp, go_sem, h26, c0]
  ·intro a W hG hR hO hp; have h25 : slotOf a 25 = vi f := hp.1; have h27 : slotOf a 27 = vi b.drive := hp.2.1; refine wp_yields (v := vi fd) ?_ ⟨_, rfl, rfl, Below.refl _ _, hG⟩; simp [slotOf] at h25 h27; simp [execOp, go_sem, h25, h27, HC.out.2.1]
  ·intro a W hG hR hO hp; have h23 : slotOf a 23 = vi (1000 * h) := hp.1; have h28 : slotOf a 28 = vi fd := hp.2.1; refine wp_yields (v := vi (1000 * h - fd)) ?_ ⟨_, rfl, rfl, Below.refl _ _, hG⟩; simp [slotOf] at h23 h28; simp [execOp, go_sem, h23, h28, HC.out.2.2]
 ·intro wz hG hR
  rintro _ rfl _ rfl _ rfl _ rfl _ rfl _ rfl _ rfl _ rfl _ rfl _ rfl _ rfl _ rfl _ rfl
  change wpList _ _ _ _ _ _
  simp only [Act.put, List.setIfInBounds_toArray, List.set_cons_zero, List.set_cons_succ, List.drop_succ_cons, List.drop_zero]
  clear hR
  have H4 := Lib.hid (And.intro ((newer_trans H3.out.1 hG)) (And.intro ((H3.out.2.1.below hG H3.out.2.1.lt)) ((H3.out.2.2.below hG H3.out.2.2.lt))))
  clear hG H3 z0 z1 z2 z3 z4 z5 z6 z7 x2 x3
  go_wp2_with fail
  go_ret
  exact ⟨rfl, H4.out.1⟩
set_option maxHeartbeats 1000000 in
theorem beds_any (s : Sm) (f : Int) (t : Option Bool) (x : Cl) (w : World) (hok : SmOk s w) (hx : s.cs[0]? = some x) : Calls Tryz.prog 82 #[lkV s f t] w fun e w' => e = .returned (vi x.beds.length) /\ newer w w' := by
 have hnw := newer_allocH w (.cells (lkC s f t) 97)
 have hbx := Whole.made w 97 (lkC s f t)
 have HN := Lib.hid hnw
 have hl : (0 : Int) < s.cs.length := by have := (List.getElem?_eq_some_iff.1 hx).1; omega
 have x0 := hbx.at 0 (v := .slice s.a s.cs.length s.c) rfl
 obtain ⟨b1, o1, e1, _, cx⟩ := rowC (hok.next hnw).cs hx
 rw [e1] at x0
 simp only [Nat.add_zero] at cx
 clear hnw hbx hok hx e1
 go_enter Tryz.func82, Tryz.ntmps82
 go_wp2_with fail
 go_ret
 exact ⟨rfl, HN.out⟩
set_option maxHeartbeats 1000000 in
theorem below_any (s : Sm) (f : Int) (w : World) : Calls Tryz.prog 30 #[smV s, vi f] w fun e w' => e = .returned (lkV s f (some false)) /\ newer w w' := by
 have hrb := Whole.made (w.alloc (.cells (smC s) 48)) 97 #[.slice s.a s.cs.length s.c, vi s.least, vi f, .func (.func 57) #[] #[]]
 simp only [World.size_alloc] at hrb
 have HZ := Lib.hid (And.intro (newer_trans (newer_allocH w (.cells (smC s) 48)) (newer_allocH (w.alloc (.cells (smC s) 48)) (.cells #[.slice s.a s.cs.length s.c, vi s.least, vi f, .func (.func 57) #[] #[]] 97))) hrb)
 have hbx := Whole.made w 48 (smC s)
 have x0 := hbx.at 0 (v := .slice s.a s.cs.length s.c) rfl
 have x1 := hbx.at 1 (v := vi s.least) rfl
 clear hrb hbx
 go_enter Tryz.func30, Tryz.ntmps30
 go_wp2_with fail
 have z0 := HZ.out.2.at 0 (v := .slice s.a s.cs.length s.c) rfl
 have z1 := HZ.out.2.at 1 (v := vi s.least) rfl
 have z2 := HZ.out.2.at 2 (v := vi f) rfl
 have z3 := HZ.out.2.at 3 (v := .func (.func 57) #[] #[]) rfl
 exact bodyPost_ret (v := .agg #[.slice s.a s.cs.length s.c, vi s.least, vi f, .func (.func 57) #[] #[]]) (by simp [results, Tryz.results30, go_sem, z0, z1, z2, z3]) rfl ⟨rfl, HZ.out.1⟩
set_option maxHeartbeats 1000000 in
theorem min2_any (a b : Int) (nb c : Nat) (w : World) (hw : Whole w nb 3 #[vi a, vi b]) : Calls Tryz.prog 94 #[.slice (some ⟨nb, 0, none⟩) 2 c] w fun e w' => e = .returned (vi (mnI a b)) /\ w = w' := by
 have c0 := hw.at 0 (v := vi a) rfl
 have c1 := hw.at 1 (v := vi b) rfl
 clear hw
 by_cases h : b < a
 ·have e : mnI a b = b := by unfold mnI; rw [if_pos h]
  have h2 : ¬ a < b := by omega
  rw [e]
  clear e
  go_enter Tryz.func94, Tryz.ntmps94
  go_wp2_with fail
  go_loop [3, 4] (fun s3 s4 => (s4 = vi 1 /\ s3 = vi a) ∨ (s4 = vi 2 /\ s3 = vi b)) (fun _ s4 => 2 - (intOf s4).toNat)
  case atStart => exact .inl ⟨rfl, rfl⟩
  case round =>
   rcases hrel with ⟨rfl, rfl⟩ | ⟨rfl, rfl⟩
   ·go_wp2_with fail
    all_goals first
     | (exfalso; omega)
     | (go_round
        case rel => exact .inr ⟨rfl, rfl⟩
        case measure => simp [intOf])
   ·go_wp2_with fail
    go_ret
    exact ⟨rfl, rfl⟩
 ·have e : mnI a b = a := by unfold mnI; rw [if_neg h]
  rw [e]
  clear e
  go_enter Tryz.func94, Tryz.ntmps94
  go_wp2_with fail
  go_loop [3, 4] (fun s3 s4 => (s4 = vi 1 /\ s3 = vi a) ∨ (s4 = vi 2 /\ s3 = vi a)) (fun _ s4 => 2 - (intOf s4).toNat)
  case atStart => exact .inl ⟨rfl, rfl⟩
  case round =>
   rcases hrel with ⟨rfl, rfl⟩ | ⟨rfl, rfl⟩
   ·go_wp2_with fail
    all_goals first
     | (exfalso; omega)
     | (go_round
        case rel => exact .inr ⟨rfl, rfl⟩
        case measure => simp [intOf])
   ·go_wp2_with fail
    go_ret
    exact ⟨rfl, rfl⟩
set_option maxHeartbeats 1000000 in
theorem least2_any (a b : Int) (nb c : Nat) (w : World) (hw : Whole w nb 3 #[vi a, vi b]) : Calls Tryz.prog 81 #[.slice (some ⟨nb, 0, none⟩) 2 c] w fun e w' => e = .returned (vi (mnI a b)) /\ w = w' := by
 have HM := Lib.hid (min2_any a b nb c w hw)
 obtain ⟨m, hm⟩ : ∃ m, m = mnI a b := ⟨_, rfl⟩
 rw [<- hm] at HM ⊢
 clear hm hw
 go_enter Tryz.func81, Tryz.ntmps81
 go_wp2_with fail
 refine (HM.out).mono ?_
 rintro e w' ⟨rfl, rfl⟩
 go_wp2_with fail
 go_ret
 exact ⟨rfl, rfl⟩
end

section
open Go.RowKit Go.Shelf Go.Deep
set_option maxHeartbeats 1000000 in
theorem next_any (s : Sm) (f : Int) (t : Option Bool) (b : Nat) (w : World) :
  Calls Tryz.prog 80 #[lkV s f t, vi b] w fun e w' => e = .returned (.func (.func 93) #[] #[.pointer (some ⟨w.heap.size + 1, 0, none⟩), .pointer (some ⟨w.heap.size, 0, none⟩)]) /\ ((w.alloc (.cells (lkC s f t) 97)).alloc (.cells #[vi b] 3)) = w' := by
 go_enter Tryz.func80, Tryz.ntmps80
 go_wp2
 go_ret
 exact ⟨rfl, rfl⟩
def loN (b : Nat) : Nat := b - 1
def cntN (n b : Nat) : Nat := min (n - 1) (b + 1) + 1 - (b - 1)
theorem near_is (n b : Nat) : nearL n b = List.range' (loN b) (cntN n b) := rfl
attribute [local go_sem] Oper.semAt_some
set_option maxRecDepth 100000 in
set_option maxHeartbeats 2000000 in
theorem next_in (q l bb lb : Nat) (s : Sm) (f : Int) (t : Option Bool) (x : Cl) (b : Nat) (hx : s.cs[0]? = some x) (hb : b < x.beds.length) (hl : x.beds.length <= 1000) (J : Nat -> World -> Prop)
  (hJ : ∀ k W, J k W -> Whole W bb 3 #[vi b] /\ Whole W lb 97 (lkC s f t) /\ SmOk s W) (hN : ∀ k W W', J k W -> newer W W' -> J k W')
  (hY : ∀ k W, k < cntN x.beds.length b -> J k W -> YieldAt Fence.wide (q - 1) Tryz.prog l #[vi (((loN b : Nat) : Int) + k)] W fun e W'' => e = .returned (.bool true) /\ J (k + 1) W'')
  (W : World) (hW : J 0 W) :
  CallsIn Fence.wide q Tryz.prog 93 #[.func (.yield l) #[] #[], .pointer (some ⟨bb, 0, none⟩), .pointer (some ⟨lb, 0, none⟩)] W fun e W' => (∃ v, e = .returned v) /\ J (cntN x.beds.length b) W' := by
 have HJ := Lib.hid hJ
 have HY := Lib.hid hY
 have HN := Lib.hid hN
 have HX := Lib.hid hx
 obtain ⟨hc, _, _⟩ := hJ 0 W hW
 have b0 := hc.at 0 (v := vi b) rfl
 obtain ⟨lo, hlo⟩ : ∃ lo : Int, lo = ((loN b : Nat) : Int) := ⟨_, rfl⟩
 obtain ⟨m, hm⟩ : ∃ m, m = cntN x.beds.length b := ⟨_, rfl⟩
 obtain ⟨hi, hhi⟩ : ∃ hi : Int, hi = mnI ((x.beds.length : Int) - 1) ((b : Int) + 1) := ⟨_, rfl⟩
 have hlm : (lo = (b : Int) - 1 ∨ (lo = 0 /\ b = 0)) /\ 0 <= lo /\ hi = lo + m - 1 /\ hi <= 1000 /\ lo <= 1000 := by
  have e : hi = min ((x.beds.length : Int) - 1) ((b : Int) + 1) := by rw [hhi]; unfold mnI; split <;> omega
  rw [hlo, hm, e]
  unfold loN cntN
  omega
 rw [<- hlo] at HY
 rw [<- hm] at HY ⊢
 have HHI := Lib.hid hhi
 have HLM := Lib.hid hlm
 have HBL := Lib.hid (And.intro hb hl)
 clear hJ hY hN hc hlo hm hhi hx
 refine callsIn_of_wp Tryz.func93 rfl trivial ?_ rfl
 simp only [Tryz.ntmps93, List.size_toArray, List.length_cons, List.length_nil, Nat.reduceAdd, Nat.reduceSub, Array.replicate_succ, Array.replicate_zero, List.push_toArray, List.append_toArray, List.nil_append, List.cons_append]
 gi_wp2_with fail
 all_goals
  clear b0
  gi_loopw [4] (fun s4 wr => ∃ k : Nat, k <= m /\ s4 = vi (lo + k) /\ J k wr) (fun s4 _ => (hi + 1 - intOf s4).toNat)
  case atStart =>
   refine ⟨0, Nat.zero_le _, ?_, hW⟩
   have h := HLM.out
   first
    | (rw [show lo + ((0 : Nat) : Int) = (b : Int) - 1 by omega])
    | (rw [show lo + ((0 : Nat) : Int) = 0 by omega])
  case round =>
   obtain ⟨k, hk, rfl, hj⟩ := hrel
   obtain ⟨wo, hwo⟩ : ∃ wo : World, wo = wr := ⟨_, rfl⟩
   rw [<- hwo] at hj ⊢
   clear hwo wr
   have hj3 := HJ.out k _ hj
   have b0 := hj3.1.at 0 (v := vi b) rfl
   have l0 := hj3.2.1.at 0 (v := .slice s.a s.cs.length s.c) rfl
   have l1 := hj3.2.1.at 1 (v := vi s.least) rfl
   have l2 := hj3.2.1.at 2 (v := vi f) rfl
   have l3 := hj3.2.1.at 3 (v := .func (.func (trF t)) #[] #[]) rfl
   have HSM := Lib.hid hj3.2.2
   have HJK := Lib.hid hj
   have hlm := HLM.out
   have hbl := HBL.out
   have c11 : IntKind.i64.wrap ((x.beds.length : Int) - 1) = (x.beds.length : Int) - 1 := IntWalk.i64_in _ (by omega)
   have c13 : IntKind.i64.wrap ((b : Int) + 1) = (b : Int) + 1 := IntWalk.i64_in _ (by omega)
   clear hj3 hj hW
   by_cases hlt : k < m
   ·have hle : lo + (k : Int) <= hi := by omega
    have wn : IntKind.i64.wrap (lo + (k : Int) + 1) = lo + (k : Int) + 1 := IntWalk.i64_in _ (by omega)
    gi_wp2_with fail
    refine outer_words (by kernel_rfl) (fun _ _ h => h) (region_told 7 (by kernel_rfl) (by kernel_rfl) (fun W => Below wo.heap.size wo W) newer (pickD [vIs (vi (lo + k)), vIs (lkV s f t), vIs (vi x.beds.length), vIs (vi ((x.beds.length : Int) - 1)), vIs (vi b), vIs (vi ((b : Int) + 1)), vIs (vi hi)]) (fun h k => newer_trans h k) (pickD_stable _ ⟨vIs_st, vIs_st, vIs_st, vIs_st, vIs_st, vIs_st, vIs_st, trivial⟩) (Below.refl _ wo).drew (Below.refl _ _) ?_ ?_)
    ·refine ⟨?_, ?_, ?_, ?_, ?_, ?_, ?_, trivial⟩
     ·intro a W hG hR hO hp; have h4 := hO.slot 4 (by kernel_rfl); refine wp_yields (v := vi (lo + k)) ?_ ⟨_, rfl, rfl, Below.refl _ _, hG⟩; simp [slotOf] at h4; simp [execOp, go_sem, h4]
     ·intro a W hG hR hO hp; have h2 := hO.slot 2 (by kernel_rfl); have c0 := keep_cell l0 hG; have c1 := keep_cell l1 hG; have c2 := keep_cell l2 hG; have c3 := keep_cell l3 hG; refine wp_yields (v := lkV s f t) ?_ ⟨_, rfl, rfl, Below.refl _ _, hG⟩; simp [slotOf] at h2; simp [execOp, go_sem, h2, c0, c1, c2, c3]
     ·intro a W hG hR hO hp
      have h9 : slotOf a 9 = lkV s f t := hp.1
      refine wp_enters (f := 82) (args := #[lkV s f t]) ?_ ((beds_any s f t x W (HSM.out.next hG) HX.out).mono ?_)
      ·simp [slotOf] at h9
       simp [go_sem, h9]
      ·rintro e w' ⟨rfl, hb⟩
       exact ⟨_, rfl, _, rfl, rfl, hb, below_next hG hb⟩
     ·intro a W hG hR hO hp; have h10 : slotOf a 10 = vi x.beds.length := hp.1; refine wp_yields (v := vi ((x.beds.length : Int) - 1)) ?_ ⟨_, rfl, rfl, Below.refl _ _, hG⟩; simp [slotOf] at h10; simp [execOp, go_sem, h10, c11]
     ·intro a W hG hR hO hp; have h1 := hO.slot 1 (by kernel_rfl); have c0 := keep_cell b0 hG; refine wp_yields (v := vi b) ?_ ⟨_, rfl, rfl, Below.refl _ _, hG⟩; simp [slotOf] at h1; simp [execOp, go_sem, h1, c0]
     ·intro a W hG hR hO hp; have h12 : slotOf a 12 = vi b := hp.1; refine wp_yields (v := vi ((b : Int) + 1)) ?_ ⟨_, rfl, rfl, Below.refl _ _, hG⟩; simp [slotOf] at h12; simp [execOp, go_sem, h12, c13]
     ·intro a W hG hR hO hp; have h11 : slotOf a 11 = vi ((x.beds.length : Int) - 1) := hp.1; have h13 : slotOf a 13 = vi ((b : Int) + 1) := hp.2.1; refine wp_yields (v := vi hi) ?_ ⟨_, rfl, rfl, Below.refl _ _, hG⟩; simp [slotOf] at h11 h13; simp [go_sem, h11, h13, HHI.out, mnI]
    ·intro wz hG hR
     rintro _ rfl _ rfl _ rfl _ rfl _ rfl _ rfl _ rfl
     change wpList _ _ _ _ _ _
     simp only [Act.put, List.setIfInBounds_toArray, List.set_cons_zero, List.set_cons_succ, List.drop_succ_cons, List.drop_zero]
     have hjz := HN.out k wo wz HJK.out hG
     have HYK := Lib.hid (HY.out k wz hlt hjz)
     clear hG hR hjz b0 l0 l1 l2 l3 c11 c13 HJK HSM
     obtain ⟨fn, tmps, assign, body, hy, hR⟩ := HYK.out
     go_wp2_with fail
     refine onlyN_intro ?_
     gi_wp2_with fail
     refine ⟨fun h => (by cases h), hR.mono ?_⟩
     clear hy hR
     rintro e w3 ⟨rfl, hj3⟩
     gi_wp2_with fail
     go_roundw
     case rel => exact ⟨k + 1, by omega, by rw [show lo + ((k + 1 : Nat) : Int) = lo + k + 1 by omega], hj3⟩
     case measure => simp [intOf]; omega
   ·have hle : ¬ (lo + (k : Int) <= hi) := by omega
    obtain rfl : k = m := by omega
    gi_wp2_with fail
    refine outer_words (by kernel_rfl) (fun _ _ h => h) (region_told 7 (by kernel_rfl) (by kernel_rfl) (fun W => Below wo.heap.size wo W) newer (pickD [vIs (vi (lo + k)), vIs (lkV s f t), vIs (vi x.beds.length), vIs (vi ((x.beds.length : Int) - 1)), vIs (vi b), vIs (vi ((b : Int) + 1)), vIs (vi hi)]) (fun h k => newer_trans h k) (pickD_stable _ ⟨vIs_st, vIs_st, vIs_st, vIs_st, vIs_st, vIs_st, vIs_st, trivial⟩) (Below.refl _ wo).drew (Below.refl _ _) ?_ ?_)
    ·refine ⟨?_, ?_, ?_, ?_, ?_, ?_, ?_, trivial⟩
     ·intro a W hG hR hO hp; have h4 := hO.slot 4 (by kernel_rfl); refine wp_yields (v := vi (lo + k)) ?_ ⟨_, rfl, rfl, Below.refl _ _, hG⟩; simp [slotOf] at h4; simp [execOp, go_sem, h4]
     ·intro a W hG hR hO hp; have h2 := hO.slot 2 (by kernel_rfl); have c0 := keep_cell l0 hG; have c1 := keep_cell l1 hG; have c2 := keep_cell l2 hG; have c3 := keep_cell l3 hG; refine wp_yields (v := lkV s f t) ?_ ⟨_, rfl, rfl, Below.refl _ _, hG⟩; simp [slotOf] at h2; simp [execOp, go_sem, h2, c0, c1, c2, c3]
     ·intro a W hG hR hO hp
      have h9 : slotOf a 9 = lkV s f t := hp.1
      refine wp_enters (f := 82) (args := #[lkV s f t]) ?_ ((beds_any s f t x W (HSM.out.next hG) HX.out).mono ?_)
      ·simp [slotOf] at h9
       simp [go_sem, h9]
      ·rintro e w' ⟨rfl, hb⟩
       exact ⟨_, rfl, _, rfl, rfl, hb, below_next hG hb⟩
     ·intro a W hG hR hO hp; have h10 : slotOf a 10 = vi x.beds.length := hp.1; refine wp_yields (v := vi ((x.beds.length : Int) - 1)) ?_ ⟨_, rfl, rfl, Below.refl _ _, hG⟩; simp [slotOf] at h10; simp [execOp, go_sem, h10, c11]
     ·intro a W hG hR hO hp; have h1 := hO.slot 1 (by kernel_rfl); have c0 := keep_cell b0 hG; refine wp_yields (v := vi b) ?_ ⟨_, rfl, rfl, Below.refl _ _, hG⟩; simp [slotOf] at h1; simp [execOp, go_sem, h1, c0]
     ·intro a W hG hR hO hp; have h12 : slotOf a 12 = vi b := hp.1; refine wp_yields (v := vi ((b : Int) + 1)) ?_ ⟨_, rfl, rfl, Below.refl _ _, hG⟩; simp [slotOf] at h12; simp [execOp, go_sem, h12, c13]
     ·intro a W hG hR hO hp; have h11 : slotOf a 11 = vi ((x.beds.length : Int) - 1) := hp.1; have h13 : slotOf a 13 = vi ((b : Int) + 1) := hp.2.1; refine wp_yields (v := vi hi) ?_ ⟨_, rfl, rfl, Below.refl _ _, hG⟩; simp [slotOf] at h11 h13; simp [go_sem, h11, h13, HHI.out, mnI]
    ·intro wz hG hR
     rintro _ rfl _ rfl _ rfl _ rfl _ rfl _ rfl _ rfl
     change wpList _ _ _ _ _ _
     simp only [Act.put, List.setIfInBounds_toArray, List.set_cons_zero, List.set_cons_succ, List.drop_succ_cons, List.drop_zero]
     have HE := Lib.hid (HN.out _ wo wz HJK.out hG)
     clear hG hR b0 l0 l1 l2 l3 c11 c13 HJK HSM
     go_wp2_with fail
     refine onlyN_intro ?_
     gi_wp2_with fail
     go_end0
     exact ⟨⟨_, rfl⟩, HE.out⟩
end

section
open Go.RowKit Go.Shelf Go.Deep
abbrev evI (n : Int) : Value := vi n
theorem spot_eq (a b : Int × Int) (W : World) : (Op.equal 155 (spotK a) (spotK b)).run Tryz.prog W = .ok (decide (a = b)) W := by
 obtain ⟨a1, a2⟩ := a
 obtain ⟨b1, b2⟩ := b
 have e : decide ((a1, a2) = (b1, b2)) = (a1 == b1 && a2 == b2) := by
  rw [Bool.eq_iff_iff]
  simp
 rw [e]
 simp [Op.equal, Op.maxDepth, go_sem]
 by_cases h1 : a1 = b1 <;> by_cases h2 : a2 = b2 <;> simp [h1, h2]
theorem spot_check (c : Bool) (a : Int × Int) (W : World) : (Instr.checkKey c 10000 155 (spotK a)).run Tryz.prog W = .ok () W := by
 have h : ∀ n, (Instr.checkKey c (n + 2) 155 (spotK a)).run Tryz.prog W = .ok () W := by
  intro n
  simp [Instr.checkKey, run_underlying Tryz.underlying155, run_underlying Tryz.underlying3, go_sem]
 exact h 9998
theorem spot_key : EqKey Tryz.prog 155 spotK := ⟨spot_eq, spot_check, spot_bits, _, Tryz.underlying155⟩
theorem zero3 (w : World) : (zeroValue 3).run Tryz.prog w = .ok (vi 0) w := by kernel_rfl
structure RP where
 s : Sm
 f : Int
 t : Option Bool
 z : Nat
 xb : Nat
 tb : Nat
 mb : Nat
 kb : Nat
 pb : Nat
 fb : Nat
 B : Nat
structure RpOk (T : RP) : Prop where
 sd : SdOk T.s.sd
 f0 : 0 <= T.f
 f1 : T.f <= 10001
 zl : T.z < T.s.cs.length
 xm : T.xb ≠ T.mb
 tm : T.tb ≠ T.mb
 km : T.kb ≠ T.mb
 pm : T.pb ≠ T.mb
 fm : T.fb ≠ T.mb
 bm : T.B <= T.mb
abbrev rpA (T : RP) : Array Value := #[.pointer (some ⟨T.tb, 0, none⟩), .pointer (some ⟨T.pb, 0, none⟩), .pointer (some ⟨T.kb, 0, none⟩), .pointer (some ⟨T.xb, 0, none⟩), .pointer (some ⟨T.fb, 0, none⟩)]
def RP.c (T : RP) : Nat -> Nat -> Int := cF (hT T.t T.s.sd) (dAt T.s.sd) T.f
def RP.n (T : RP) : Nat := T.s.sd.n
structure SmAt (s : Sm) (W : World) (B : Nat) : Prop where
 cs : Row clL 1 W B s.a s.cs
 bd : ∀ x ∈ s.cs, Row bdL 8 W B x.a x.beds
 le : B <= W.heap.size
theorem Row.same {α : Type} {enc : α -> List Value} {s B : Nat} {w W : World} {A : Option Addr} {l : List α} (h : Row enc s w B A l) (hs : ∀ k, k < B -> W.heap[k]? = w.heap[k]?) : Row enc s W B A l := by
 intro hl
 obtain ⟨b, off, e, hb, hc⟩ := h hl
 exact ⟨b, off, e, hb, fun k x hk j v hj => (cell_of_same (hs b hb) _).trans (hc k x hk j v hj)⟩
theorem SmAt.ok {s : Sm} {W : World} {B : Nat} (h : SmAt s W B) : SmOk s W := ⟨h.cs.more h.le, fun x hx => (h.bd x hx).more h.le⟩
theorem SmAt.same {s : Sm} {W W' : World} {B : Nat} (h : SmAt s W B) (hs : ∀ k, k < B -> W'.heap[k]? = W.heap[k]?) (hl : W.heap.size <= W'.heap.size) : SmAt s W' B := ⟨h.cs.same hs, fun x hx => (h.bd x hx).same hs, Nat.le_trans h.le hl⟩
theorem SmOk.at {s : Sm} {W : World} (h : SmOk s W) : SmAt s W W.heap.size := ⟨h.cs, h.bd, Nat.le_refl _⟩
structure RsM (T : RP) (lp : List ((Int × Int) × Int)) (W : World) : Prop where
 xl : Whole W T.xb 97 (lkC T.s T.f T.t)
 tl : Whole W T.tb 3 #[vi T.z]
 kl : Whole W T.kb 152 #[.map (some T.mb)]
 pl : Whole W T.pb 110 #[.func (.func 78) #[lkV T.s T.f T.t] #[]]
 fl : Whole W T.fb 153 #[.func (.func 79) #[] (rpA T)]
 mm : RMap spotK evI T.mb lp W
 at_ : SmAt T.s W T.B
def Good (T : RP) (lp : List ((Int × Int) × Int)) : Prop := ∀ p ∈ lp, ∃ c b : Nat, p.1 = ((c : Int), (b : Int)) /\ c <= T.z /\ p.2 = restN T.c T.n bigN (T.z - c) c b
section
variable {T : RP} {lp : List ((Int × Int) × Int)} {W W' : World}
theorem RsM.next (h : RsM T lp W) (hb : newer W W') : RsM T lp W' :=
 ⟨h.xl.below hb h.xl.lt, h.tl.below hb h.tl.lt, h.kl.below hb h.kl.lt, h.pl.below hb h.pl.lt, h.fl.below hb h.fl.lt, h.mm.below hb h.mm.lt, h.at_.same (fun k hk => hb.block k (Nat.lt_of_lt_of_le hk h.at_.le)) hb.size⟩
theorem RsM.put (hT : RpOk T) (h : RsM T lp W) (lp' : List ((Int × Int) × Int)) : RsM T lp' (Go.ChangeMaps.setBlock W T.mb (.map (ents spotK evI lp') lp'.length)) := by
 refine ⟨h.xl.setBlock hT.xm _, h.tl.setBlock hT.tm _, h.kl.setBlock hT.km _, h.pl.setBlock hT.pm _, h.fl.setBlock hT.fm _, h.mm.put, h.at_.same (fun k hk => setBlock_get_ne _ (by have := hT.bm; omega)) (by simp [Go.ChangeMaps.setBlock])⟩
theorem good_put (h : Good T lp) {c b : Nat} {v : Int} (hc : c <= T.z) (hv : v = restN T.c T.n bigN (T.z - c) c b) : Good T (putR ((c : Int), (b : Int)) v lp) := by
 intro p hp
 unfold putR at hp
 have key : p ∈ lp ∨ p = (((c : Int), (b : Int)), v) := by
  split at hp
  ·rcases List.mem_or_eq_of_mem_set hp with h1 | h1
   ·exact .inl h1
   ·exact .inr h1
  ·rcases List.mem_append.1 hp with h1 | h1
   ·exact .inl h1
   ·exact .inr (List.mem_singleton.1 h1)
 rcases key with h1 | h1
 ·exact h p h1
 ·exact ⟨c, b, by rw [h1], hc, by rw [h1]; exact hv⟩
theorem good_look (h : Good T lp) {c b i : Nat} {v : Int} (ha : atR ((c : Int), (b : Int)) lp 0 = some (i, v)) : v = restN T.c T.n bigN (T.z - c) c b := by
 obtain ⟨_, h2⟩ := atR_some ha
 obtain ⟨c', b', h3, _, h5⟩ := h _ (List.mem_of_getElem? h2)
 simp only [Prod.mk.injEq] at h3
 have e1 : c' = c := by omega
 have e2 : b' = b := by omega
 subst e1
 subst e2
 exact h5
end
section
variable {T : RP} {lp : List ((Int × Int) × Int)} {W W' : World}
theorem RsM.far (h : RsM T lp W) {d : Nat} (hg : W.grownBy W' (some d)) (h1 : T.xb ≠ d) (h2 : T.tb ≠ d) (h3 : T.kb ≠ d) (h4 : T.pb ≠ d) (h5 : T.fb ≠ d) (h6 : T.mb ≠ d) (h7 : T.B <= d) : RsM T lp W' := by
 have ne : ∀ {k : Nat}, k ≠ d -> some k ≠ some d := fun h e => h (by injection e)
 exact ⟨h.xl.grown hg (ne h1), h.tl.grown hg (ne h2), h.kl.grown hg (ne h3), h.pl.grown hg (ne h4), h.fl.grown hg (ne h5), h.mm.same (hg.block _ h.mm.lt (ne h6)), h.at_.same (fun k hk => hg.block k (Nat.lt_of_lt_of_le hk h.at_.le) (ne (by omega))) hg.size⟩
theorem grown_setBlock (W : World) (b : Nat) (o : Obj) : W.grownBy (Go.ChangeMaps.setBlock W b o) (some b) :=
 ⟨rfl, rfl, rfl, by simp [Go.ChangeMaps.setBlock], fun k _ hk => setBlock_get_ne o (fun e => hk (by rw [e]))⟩
theorem hT_at (t : Option Bool) (s : Sd) {k j : Nat} {b : Bd} (h : bedAt s.cols k j = some b) : hT t s k j = holdsN b (trR t b) := by
 match t with
 | some hi => simp only [hT, hAt, trR, h]
 | none => simp only [hT, hAt, trR, h]
theorem c_is {k j : Nat} {b : Bd} (h : bedAt T.s.sd.cols k j = some b) : T.c k j = costB T.f T.t b := by
 unfold RP.c cF costB
 rw [hT_at T.t T.s.sd h]
 simp only [dAt, h]
theorem sm_bed {s : Sm} (h : SdOk s.sd) {k j : Nat} (hk : k < s.cs.length) (hj : j < s.sd.n) : ∃ x b, s.cs[k]? = some x /\ x.beds[j]? = some b /\ x.beds.length = s.sd.n /\ bedAt s.sd.cols k j = some b /\ bdB b = true := by
 obtain ⟨x, hx⟩ := get_of_lt hk
 have hm : x.beds ∈ s.sd.cols := List.mem_map.2 ⟨x, List.mem_of_getElem? hx, rfl⟩
 have hl := h.len _ hm
 obtain ⟨b, hb⟩ := get_of_lt (l := x.beds) (k := j) (by omega)
 refine ⟨x, b, hx, hb, hl, ?_, h.bd _ hm b (List.mem_of_getElem? hb)⟩
 have e : s.sd.cols[k]? = some x.beds := by simp [Sm.sd, hx]
 simp only [bedAt, e, hb]
theorem price_any (hT : RpOk T) (hok : SmOk T.s W) {k j : Nat} (hk : k <= T.z) (hj : j < T.n) : Calls Tryz.prog 78 #[lkV T.s T.f T.t, vi k, vi j] W fun e w' => e = .returned (vi (T.c k j)) /\ newer W w' := by
 obtain ⟨x, b, h1, h2, _, h4, h5⟩ := sm_bed hT.sd (k := k) (j := j) (by have := hT.zl; omega) hj
 rw [c_is h4]
 exact cost_any T.s T.f T.t k j x b W hok h1 h2 h5 hT.f0 hT.f1
theorem ok_of (hT' : RpOk T) : HdOk (hT T.t T.s.sd) (dAt T.s.sd) T.n T.s.cs.length T.s.sd.K := by
 match ht : T.t with
 | some _ =>
  have h := hd_ok hT'.sd false
  rw [sd_len] at h
  exact h
 | none =>
  have h := hd_ok hT'.sd false
  rw [sd_len] at h
  exact h
end
def RestC (T : RP) (m : Nat) : Prop := ∀ (c b : Nat) (lp : List ((Int × Int) × Int)) (W : World), c + m = T.z -> b < T.n -> RsM T lp W -> Good T lp ->
 Calls Tryz.prog 79 (#[.agg #[vi c, vi b]] ++ rpA T) W fun e W' => e = .returned (vi (restN T.c T.n bigN m c b)) /\ ∃ lp', RsM T lp' W' /\ Good T lp' /\ W.grownBy W' (some T.mb)
end

end Go.Proofs.YtcdhhfgpdokkoaaGreat
