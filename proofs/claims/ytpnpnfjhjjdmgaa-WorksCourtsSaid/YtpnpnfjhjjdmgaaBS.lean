/- The fewest decisions by the reference: all sets, by bits; plain law. -/
import Derived.Test.YtpnpnfjhjjdmgaaBP
namespace Go.Proofs.Ytpnpnfjhjjdmgaa

/-- Is a list before another one that is as long? -/
def lessB : List Int → List Int → Bool
  | x :: a, y :: b => if x = y then lessB a b else decide (x < y)
  | _, _ => false
def bitS (s v : Nat) : Bool := decide (s / 2 ^ v % 2 = 1)
/-- The members of a set. -/
def memS (n s : Nat) : List Int := numK (bitS s) n
def agK (nb : Nat → Bool) (s : Nat) : Nat → Bool
  | 0 => true
  | v + 1 => agK nb s v && (!bitS s v || nb v)
/-- Is a set left out, as things stand? -/
def outS (nb : Nat → Bool) (n s : Nat) (b : List Int × Bool) : Bool := !agK nb s n || (b.2 && (decide (b.1.length < (memS n s).length) || (decide ((memS n s).length = b.1.length) && !lessB (memS n s) b.1)))
def stepS (nb : Nat → Bool) (f : List Int → Bool) (n : Nat) (b : List Int × Bool) (s : Nat) : List Int × Bool := if outS nb n s b then b else if f (memS n s) then (memS n s, true) else b
def refC (nb : Nat → Bool) (f : List Int → Bool) (n : Nat) : Nat → List Int × Bool
  | 0 => ([], false)
  | s + 1 => stepS nb f n (refC nb f n s) s
theorem agK_iff {nb : Nat → Bool} {s : Nat} : ∀ n, agK nb s n = true ↔ ∀ v, v < n → bitS s v = true → nb v = true
  | 0 => ⟨fun _ v h => by omega, fun _ => rfl⟩
  | n + 1 => by
    unfold agK
    rw [Bool.and_eq_true, agK_iff n]
    constructor
    · rintro ⟨h1, h2⟩ v hv hb
      by_cases he : v = n
      · subst he
        rw [hb] at h2
        simpa using h2
      · exact h1 v (by omega) hb
    · intro h
      refine ⟨fun v hv hb => h v (by omega) hb, ?_⟩
      cases hb : bitS s n with
      | false => rfl
      | true => simp [h n (by omega) hb]
theorem numK_congr {f g : Nat → Bool} : ∀ n, (∀ v, v < n → f v = g v) → numK f n = numK g n
  | 0, _ => rfl
  | n + 1, h => by
    have ih := numK_congr n fun v hv => h v (by omega)
    have hn := h n (by omega)
    cases hf : f n with
    | true => rw [numK_yes hf, numK_yes (hn ▸ hf), ih]
    | false => rw [numK_no hf, numK_no (hn ▸ hf), ih]
theorem combs_numK {f : Nat → Bool} : ∀ (n m : Nat), ∀ c ∈ combs (numK f n) m, ∃ g : Nat → Bool, c = numK (fun v => g v && f v) n
  | n, 0, c, h => by
    simp only [combs, List.mem_singleton] at h
    subst h
    refine ⟨fun _ => false, ?_⟩
    have e : ∀ n, numK (fun v => false && f v) n = [] := by
      intro n
      induction n with
      | zero => rfl
      | succ n ih => rw [numK_no rfl, ih]
    exact (e n).symm
  | 0, m + 1, c, h => by simp [numK, combs] at h
  | n + 1, m + 1, c, h => by
    cases hf : f n with
    | false =>
      rw [numK_no hf] at h
      obtain ⟨g, rfl⟩ := combs_numK n (m + 1) c h
      exact ⟨g, (numK_no (by simp [hf])).symm⟩
    | true =>
      rw [numK_yes hf, combs_snoc] at h
      rcases h with h | ⟨d, hd, rfl⟩
      · obtain ⟨g, rfl⟩ := combs_numK n (m + 1) c h
        refine ⟨fun v => g v && decide (v ≠ n), ?_⟩
        rw [numK_no (by simp)]
        exact numK_congr n fun v hv => by simp [show v ≠ n by omega]
      · obtain ⟨g, rfl⟩ := combs_numK n m d hd
        refine ⟨fun v => g v || decide (v = n), ?_⟩
        rw [numK_yes (by simp [hf])]
        congr 1
        exact numK_congr n fun v hv => by simp [show v ≠ n by omega]
/-- Each choice is a set by bits. -/
theorem bits_of (g : Nat → Bool) : ∀ n, ∃ s, s < 2 ^ n ∧ ∀ v, v < n → bitS s v = g v
  | 0 => ⟨0, by simp, fun v h => by omega⟩
  | n + 1 => by
    obtain ⟨s, hs, hb⟩ := bits_of g n
    have hp : 2 ^ (n + 1) = 2 ^ n * 2 := Nat.pow_succ 2 n
    have key : ∀ v, v < n → ∀ t, (s + 2 ^ n * t) / 2 ^ v % 2 = s / 2 ^ v % 2 := by
      intro v hv t
      have h1 : 2 ^ n = 2 ^ v * (2 * 2 ^ (n - v - 1)) := by
        rw [show 2 * 2 ^ (n - v - 1) = 2 ^ (n - v - 1 + 1) by rw [Nat.pow_succ]; omega, ← Nat.pow_add]
        congr 1
        omega
      rw [h1, Nat.mul_assoc, Nat.add_mul_div_left _ _ (Nat.pow_pos (by omega)), Nat.mul_assoc, Nat.add_mul_mod_self_left]
    cases hg : g n with
    | false =>
      refine ⟨s, by omega, fun v hv => ?_⟩
      by_cases he : v = n
      · subst he
        rw [hg]
        unfold bitS
        rw [Nat.div_eq_of_lt hs]
        rfl
      · exact hb v (by omega)
    | true =>
      refine ⟨s + 2 ^ n, by omega, fun v hv => ?_⟩
      by_cases he : v = n
      · subst he
        rw [hg]
        unfold bitS
        rw [Nat.add_div_right _ (Nat.pow_pos (by omega)), Nat.div_eq_of_lt hs]
        rfl
      · rw [← hb v (by omega)]
        unfold bitS
        have := key v (by omega) 1
        rw [Nat.mul_one] at this
        rw [this]
theorem lessB_same : ∀ (a b : List Int), a.length = b.length → lessB a b = false → lessB b a = false → a = b
  | [], [], _, _, _ => rfl
  | [], y :: b, h, _, _ => by simp at h
  | x :: a, [], h, _, _ => by simp at h
  | x :: a, y :: b, h, h1, h2 => by
    unfold lessB at h1 h2
    by_cases he : x = y
    · subst he
      rw [if_pos rfl] at h1 h2
      rw [lessB_same a b (by simpa using h) h1 h2]
    · rw [if_neg he, decide_eq_false_iff_not] at h1
      rw [if_neg (Ne.symm he), decide_eq_false_iff_not] at h2
      omega
theorem lessB_irr : ∀ a : List Int, lessB a a = false
  | [] => rfl
  | x :: a => by
    unfold lessB
    rw [if_pos rfl]
    exact lessB_irr a
theorem lessB_asym : ∀ (a b : List Int), lessB a b = true → lessB b a = false
  | [], _, h => by simp [lessB] at h
  | x :: a, [], h => by simp [lessB] at h
  | x :: a, y :: b, h => by
    unfold lessB at h ⊢
    by_cases he : x = y
    · subst he
      rw [if_pos rfl] at h ⊢
      exact lessB_asym a b h
    · rw [if_neg he, decide_eq_true_eq] at h
      rw [if_neg (Ne.symm he), decide_eq_false_iff_not]
      omega
theorem lessB_trans : ∀ (a b c : List Int), lessB a b = true → lessB b c = true → lessB a c = true
  | [], _, _, h, _ => by simp [lessB] at h
  | x :: a, [], _, h, _ => by simp [lessB] at h
  | x :: a, y :: b, [], _, h => by simp [lessB] at h
  | x :: a, y :: b, z :: c, h1, h2 => by
    unfold lessB at h1 h2 ⊢
    by_cases e1 : x = y
    · subst e1
      rw [if_pos rfl] at h1
      by_cases e2 : x = z
      · subst e2
        rw [if_pos rfl] at h2 ⊢
        exact lessB_trans a b c h1 h2
      · rw [if_neg e2] at h2 ⊢
        exact h2
    · rw [if_neg e1, decide_eq_true_eq] at h1
      by_cases e2 : y = z
      · subst e2
        rw [if_neg e1, decide_eq_true_eq]
        exact h1
      · rw [if_neg e2, decide_eq_true_eq] at h2
        rw [if_neg (by omega), decide_eq_true_eq]
        omega
/-- The first of all lists of a length is before all others. -/
theorem first_less {f : List Int → Bool} : ∀ (l : List Int), (∀ i a b, l[i]? = some a → l[i + 1]? = some b → a < b) → ∀ (m : Nat) (x : List Int), (combs l m).find? f = some x → ∀ y ∈ combs l m, f y = true → y = x ∨ lessB x y = true
  | _, _, 0, x, h, y, hy, _ => by
    simp only [combs, List.mem_singleton] at hy
    subst hy
    have := List.mem_of_find?_eq_some h
    simp only [combs, List.mem_singleton] at this
    exact .inl this.symm
  | [], _, m + 1, x, h, y, hy, _ => by simp [combs] at hy
  | a :: l, hl, m + 1, x, h, y, hy, hf => by
    have hl2 : ∀ i a b, l[i]? = some a → l[i + 1]? = some b → a < b := fun i a b h1 h2 => hl (i + 1) a b (by simpa using h1) (by simpa using h2)
    have low : ∀ z ∈ l, a < z := by
      intro z hz
      obtain ⟨j, hj⟩ := List.getElem?_of_mem hz
      have key : ∀ (j : Nat) (b : Int), l[j]? = some b → a < b := by
        intro j
        induction j with
        | zero => intro b hb; exact hl 0 a b (by simp) (by simpa using hb)
        | succ j ih =>
          intro b hb
          obtain ⟨e, he⟩ := get_of_lt (l := l) (k := j) (by have := (List.getElem?_eq_some_iff.1 hb).1; omega)
          have h3 := ih e he
          have h4 := hl2 j e b he hb
          omega
      exact key j z hj
    rw [combs_cons, List.find?_append] at h
    rw [combs_cons, List.mem_append] at hy
    rw [List.find?_map] at h
    cases hc : (combs l m).find? (f ∘ (a :: ·)) with
    | some x' =>
      rw [hc] at h
      have hx : a :: x' = x := by simpa using h
      subst hx
      rcases hy with hy | hy
      · obtain ⟨y', hy', rfl⟩ := List.mem_map.1 hy
        rcases first_less (f := f ∘ (a :: ·)) l hl2 m x' hc y' hy' hf with rfl | h2
        · exact .inl rfl
        · right
          unfold lessB
          rw [if_pos rfl]
          exact h2
      · right
        obtain ⟨h1, _⟩ := combs_rise l hl2 (m + 1) y hy
        have hlen := combs_len l (m + 1) y hy
        cases y with
        | nil => simp at hlen
        | cons b y' =>
          have hb := low b (h1 b List.mem_cons_self)
          unfold lessB
          rw [if_neg (by omega), decide_eq_true_eq]
          exact hb
    | none =>
      rw [hc] at h
      have h' : (combs l (m + 1)).find? f = some x := by simpa using h
      rcases hy with hy | hy
      · obtain ⟨y', hy', rfl⟩ := List.mem_map.1 hy
        rw [List.find?_eq_none] at hc
        have := hc y' hy'
        exact absurd hf this
      · exact first_less l hl2 (m + 1) x h' y hy hf
def goodS (nb : Nat → Bool) (f : List Int → Bool) (n s : Nat) : Prop := agK nb s n = true ∧ f (memS n s) = true
def beforeL (a b : List Int) : Prop := a.length < b.length ∨ (a.length = b.length ∧ lessB a b = true)
theorem beforeL_trans {a b c : List Int} (h1 : beforeL a b) (h2 : beforeL b c) : beforeL a c := by
  rcases h1 with h1 | ⟨h1, h3⟩ <;> rcases h2 with h2 | ⟨h2, h4⟩
  · exact .inl (by omega)
  · exact .inl (by omega)
  · exact .inl (by omega)
  · exact .inr ⟨by omega, lessB_trans _ _ _ h3 h4⟩
theorem beforeL_irr {a : List Int} : ¬ beforeL a a := by
  rintro (h | ⟨_, h⟩)
  · omega
  · rw [lessB_irr] at h
    cases h
/-- What the reference finds: a list that is right, and none before it is. -/
theorem refC_inv {nb : Nat → Bool} {f : List Int → Bool} {n : Nat} : ∀ k, ((refC nb f n k).2 = false → ∀ s, s < k → ¬ goodS nb f n s) ∧ ((refC nb f n k).2 = true → (∃ s, s < k ∧ goodS nb f n s ∧ (refC nb f n k).1 = memS n s) ∧ ∀ s, s < k → goodS nb f n s → ¬ beforeL (memS n s) (refC nb f n k).1)
  | 0 => ⟨fun _ s h => by omega, fun h => by cases h⟩
  | k + 1 => by
    obtain ⟨ih0, ih1⟩ := refC_inv (nb := nb) (f := f) (n := n) k
    obtain ⟨b, hb⟩ : ∃ b, b = refC nb f n k := ⟨_, rfl⟩
    rw [← hb] at ih0 ih1
    have hstep : refC nb f n (k + 1) = stepS nb f n b k := by rw [hb]; rfl
    rw [hstep]
    unfold stepS
    by_cases ho : outS nb n k b = true
    · rw [if_pos ho]
      unfold outS at ho
      rw [Bool.or_eq_true] at ho
      refine ⟨fun h0 s hs hg => ?_, fun h1 => ?_⟩
      · by_cases he : s = k
        · subst he
          rcases ho with ho | ho
          · rw [hg.1] at ho
            cases ho
          · rw [h0] at ho
            cases ho
        · exact ih0 h0 s (by omega) hg
      · obtain ⟨⟨s0, h2, h3, h4⟩, h5⟩ := ih1 h1
        refine ⟨⟨s0, by omega, h3, h4⟩, fun s hs hg hbf => ?_⟩
        by_cases he : s = k
        · subst he
          rcases ho with ho | ho
          · rw [hg.1] at ho
            cases ho
          · rw [Bool.and_eq_true, Bool.or_eq_true, Bool.and_eq_true, decide_eq_true_eq, decide_eq_true_eq] at ho
            rcases ho.2 with h6 | ⟨h6, h7⟩
            · rcases hbf with h8 | ⟨h8, _⟩ <;> omega
            · rcases hbf with h8 | ⟨_, h8⟩
              · omega
              · rw [h8] at h7
                cases h7
        · exact h5 s (by omega) hg hbf
    · rw [if_neg ho]
      have ho' : outS nb n k b = false := by simpa using ho
      unfold outS at ho'
      rw [Bool.or_eq_false_iff] at ho'
      have hag : agK nb k n = true := by simpa using ho'.1
      by_cases hf : f (memS n k) = true
      · rw [if_pos hf]
        refine ⟨(fun h => by cases h), fun _ => ⟨⟨k, by omega, ⟨hag, hf⟩, rfl⟩, fun s hs hg hbf => ?_⟩⟩
        by_cases he : s = k
        · subst he
          exact beforeL_irr hbf
        · cases hb2 : b.2 with
          | false => exact ih0 hb2 s (by omega) hg
          | true =>
            have h6 := ho'.2
            rw [hb2, Bool.true_and, Bool.or_eq_false_iff, decide_eq_false_iff_not, Bool.and_eq_false_iff, decide_eq_false_iff_not] at h6
            refine (ih1 hb2).2 s (by omega) hg (beforeL_trans hbf ?_)
            rcases Nat.lt_or_ge (memS n k).length b.1.length with h7 | h7
            · exact .inl h7
            · have h8 : (memS n k).length = b.1.length := by omega
              rcases h6.2 with h9 | h9
              · exact absurd h8 h9
              · exact .inr ⟨h8, by simpa using h9⟩
      · rw [if_neg hf]
        have nk : ¬ goodS nb f n k := fun h => hf h.2
        refine ⟨fun h0 s hs hg => ?_, fun h1 => ?_⟩
        · by_cases he : s = k
          · subst he; exact nk hg
          · exact ih0 h0 s (by omega) hg
        · obtain ⟨⟨s0, h2, h3, h4⟩, h5⟩ := ih1 h1
          refine ⟨⟨s0, by omega, h3, h4⟩, fun s hs hg => ?_⟩
          by_cases he : s = k
          · subst he; exact absurd hg nk
          · exact h5 s (by omega) hg
/-- The reference finds what Court finds. -/
theorem refC_court {q : Pj} (h : FaultOk q) {f : List Int → Bool} (hfc : f = chF q) : (courtE q = 0 → (refC (notB q.villages) f q.villages.length (2 ^ q.villages.length)).2 = true ∧ (refC (notB q.villages) f q.villages.length (2 ^ q.villages.length)).1 = courtL q) ∧ (courtE q = 7 → (refC (notB q.villages) f q.villages.length (2 ^ q.villages.length)).2 = false) := by
  subst hfc
  have hf := faultOk_iff.2 h
  obtain ⟨n, hn⟩ : ∃ n, n = q.villages.length := ⟨_, rfl⟩
  obtain ⟨nb, hnb⟩ : ∃ nb, nb = notB q.villages := ⟨_, rfl⟩
  rw [← hn, ← hnb]
  have hag : agN q = numK nb n := by rw [hn, hnb]; rfl
  obtain ⟨inv0, inv1⟩ := refC_inv (nb := nb) (f := chF q) (n := n) (2 ^ n)
  have mem_ag : ∀ s, agK nb s n = true → memS n s ∈ combs (agN q) (memS n s).length := by
    intro s hs
    have he : memS n s = numK (fun v => bitS s v && nb v) n := numK_congr n fun v hv => by
      cases hb : bitS s v with
      | false => rfl
      | true => simp [(agK_iff n).1 hs v hv hb]
    rw [he, hag]
    exact numK_combs n
  have of_ag : ∀ (m : Nat), ∀ c ∈ combs (agN q) m, ∃ s, s < 2 ^ n ∧ agK nb s n = true ∧ memS n s = c := by
    intro m c hc
    rw [hag] at hc
    obtain ⟨g, rfl⟩ := combs_numK n m c hc
    obtain ⟨s, h1, h2⟩ := bits_of (fun v => g v && nb v) n
    refine ⟨s, h1, (agK_iff n).2 fun v hv hb => ?_, numK_congr n h2⟩
    rw [h2 v hv, Bool.and_eq_true] at hb
    exact hb.2
  constructor
  · intro hc
    obtain ⟨x, hx⟩ : ∃ x, courtR q = some x := by
      unfold courtE at hc
      rw [if_pos hf] at hc
      cases hr : courtR q with
      | none => rw [hr] at hc; exact absurd hc (by decide)
      | some x => exact ⟨x, rfl⟩
    have hL : courtL q = x := by unfold courtL; rw [if_pos hf, hx]; rfl
    obtain ⟨m, hm, hmem, hfx, hno, hch⟩ := court_some _ hx
    obtain ⟨s, h1, h2, h3⟩ := of_ag m x hmem
    have hgs : goodS nb (chF q) n s := ⟨h2, by rw [h3]; exact hfx⟩
    have hfd : (refC nb (chF q) n (2 ^ n)).2 = true := by
      cases h0 : (refC nb (chF q) n (2 ^ n)).2 with
      | true => rfl
      | false => exact absurd hgs (inv0 h0 s h1)
    refine ⟨hfd, ?_⟩
    obtain ⟨⟨s0, h4, h5, h6⟩, h7⟩ := inv1 hfd
    rw [hL]
    have hlx := combs_len _ _ _ hmem
    have nb1 := h7 s h1 hgs
    rw [h3] at nb1
    have hmy := mem_ag s0 h5.1
    rw [← h6] at hmy
    have hfy : chF q (refC nb (chF q) n (2 ^ n)).1 = true := by rw [h6]; exact h5.2
    obtain ⟨y, hy⟩ : ∃ y, y = (refC nb (chF q) n (2 ^ n)).1 := ⟨_, rfl⟩
    rw [← hy] at nb1 hmy hfy ⊢
    rcases Nat.lt_trichotomy y.length x.length with h8 | h8 | h8
    · have := court_none _ hno y.length (by omega) y hmy
      rw [hfy] at this
      cases this
    · have hmy2 : y ∈ combs (agN q) m := by rw [← hlx, ← h8]; exact hmy
      have hfind : (combs (agN q) m).find? (chF q) = some x := by
        unfold chooseD at hch
        simpa only [List.drop_zero, List.nil_append, List.map_id'] using hch
      rcases first_less (agN q) (fun i a b => numK_rise _ i a b) m x hfind y hmy2 hfy with h9 | h9
      · exact h9
      · exact absurd (.inr ⟨h8.symm, h9⟩) nb1
    · exact absurd (.inl h8) nb1
  · intro hc
    have hn0 : courtR q = none := by
      unfold courtE at hc
      rw [if_pos hf] at hc
      cases hr : courtR q with
      | none => rfl
      | some x => rw [hr] at hc; simp at hc
    cases h0 : (refC nb (chF q) n (2 ^ n)).2 with
    | false => rfl
    | true =>
      obtain ⟨⟨s0, h4, h5, h6⟩, _⟩ := inv1 h0
      have hmy := mem_ag s0 h5.1
      have := court_none _ hn0 _ (Nat.lt_succ_of_le (combs_short _ _ _ hmy)) _ hmy
      rw [h5.2] at this
      cases this
end Go.Proofs.Ytpnpnfjhjjdmgaa
