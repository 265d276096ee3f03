/- The fewest decisions: plain laws. -/
import Derived.Test.YtpnpnfjhjjdmgaaBO
namespace Go.Proofs.Ytpnpnfjhjjdmgaa

theorem best_first {q : Pj} (hq : PlOk q) : (bestD true q (-1)).isSome = (bestD false q (-1)).isSome := by
  unfold bestD
  rw [show q.works.length - sx0.n = q.works.length from rfl]
  rw [(tryP_is (srch_ok q (-1) fun x hx => (hq.ws x hx).1) q.works.length sx0 [] [] none rfl (fun s hs => by simp at hs)).1]
  rw [(tryP_is (srch_ok q (-1) fun x hx => (hq.ws x hx).1) q.works.length sx0 [] [] none rfl (fun s hs => by simp at hs)).1]
  rw [fold_some, fold_some]
/-- Some plan suffices just where there is a best one. -/
theorem chF_best {q : Pj} (h : FaultOk q) (l : List Int) : chF q l = decide (bestE (decQ q l) = 0) := by
  have hd := dec_fault h l
  unfold chF
  rw [best_first (plOk_of hd)]
  unfold bestE
  rw [if_pos (faultOk_iff.2 hd)]
  cases (bestD false (decQ q l) (-1)).isSome <;> rfl
theorem bestE_two {q : Pj} (hf : faultN q = 0) : bestE q = 0 ∨ bestE q = 9 := by
  unfold bestE
  rw [if_pos hf]
  split
  · exact .inl rfl
  · exact .inr rfl
theorem decL_get (vs : List Bool) : ∀ (l : List Int) (k : Nat), (decL vs l)[k]? = (vs[k]?).map fun b => b || decide ((k : Int) ∈ l.map fun v => ((v.toNat : Nat) : Int)) := by
  intro l
  induction l generalizing vs with
  | nil => intro k; simp [decL]
  | cons v l ih =>
    intro k
    show (decL (vs.set v.toNat true) l)[k]? = _
    rw [ih, List.getElem?_set]
    by_cases hv : v.toNat = k
    · subst hv
      by_cases hl : v.toNat < vs.length
      · simp [hl]
      · simp [hl]
    · have h1 : ¬ ((k : Int) = ((v.toNat : Nat) : Int)) := by omega
      simp only [if_neg hv, List.map_cons, List.mem_cons, h1, false_or]
theorem decL_ext {vs : List Bool} {l m : List Int} (h : ∀ k : Nat, vs[k]? = some false → ((k : Int) ∈ l.map (fun v => ((v.toNat : Nat) : Int)) ↔ (k : Int) ∈ m.map (fun v => ((v.toNat : Nat) : Int)))) : decL vs l = decL vs m := by
  apply List.ext_getElem?
  intro k
  rw [decL_get, decL_get]
  cases hk : vs[k]? with
  | none => rfl
  | some b =>
    cases b with
    | true => simp
    | false =>
      have := h k hk
      simp only [Option.map_some, Bool.false_or]
      rw [decide_eq_decide.2 this]
theorem numK_in {f : Nat → Bool} {n k : Nat} : (k : Int) ∈ (numK f n).map (fun v => ((v.toNat : Nat) : Int)) ↔ k < n ∧ f k = true := by
  rw [List.mem_map]
  constructor
  · rintro ⟨z, hz, he⟩
    obtain ⟨j, h1, h2, h3⟩ := numK_mem hz
    have : j = k := by omega
    subst this
    exact ⟨h1, h3⟩
  · rintro ⟨h1, h2⟩
    refine ⟨(k : Int), ?_, by simp⟩
    have hs := numK_here (n := n) h1 h2
    exact List.mem_of_getElem? hs
theorem notB_at {vs : List Bool} {k : Nat} (h : vs[k]? = some false) : notB vs k = true := by unfold notB; rw [h]; rfl
theorem notB_of {vs : List Bool} {k : Nat} (h : notB vs k = true) : vs[k]? = some false := by
  unfold notB at h
  split at h
  · rename_i b hb
    rw [hb]
    cases b <;> simp_all
  · cases h
/-- Villages that agree anyhow change nothing. -/
theorem dec_some (q : Pj) (g : Nat → Bool) : decQ q (numK g q.villages.length) = decQ q (numK (fun k => g k && notB q.villages k) q.villages.length) := by
  unfold decQ
  congr 1
  refine decL_ext fun k hk => ?_
  rw [numK_in, numK_in, notB_at hk, Bool.and_true]
theorem dec_nil (q : Pj) : decQ q [] = q := rfl
theorem combs_cons {α : Type} {a : α} {t : List α} {m : Nat} : combs (a :: t) (m + 1) = (combs t m).map (a :: ·) ++ combs t (m + 1) := rfl
theorem combs_snoc {α : Type} (a : α) : ∀ (l : List α) (m : Nat), ∀ c, c ∈ combs (l ++ [a]) (m + 1) ↔ (c ∈ combs l (m + 1) ∨ ∃ d ∈ combs l m, c = d ++ [a])
  | [], 0, c => by simp [combs]
  | [], m + 1, c => by simp [combs]
  | b :: l, 0, c => by
    have ih := combs_snoc a l 0
    rw [List.cons_append, combs_cons, combs_cons, List.mem_append, List.mem_append, ih c]
    simp only [combs, List.map_cons, List.map_nil, List.mem_singleton, exists_eq_left, List.nil_append, or_assoc]
  | b :: l, m + 1, c => by
    have ih1 := combs_snoc a l (m + 1)
    have ih0 := combs_snoc a l m
    rw [List.cons_append, combs_cons, combs_cons, List.mem_append, List.mem_append, ih1 c]
    simp only [List.mem_map, combs_cons, List.mem_append]
    constructor
    · rintro (⟨d, hd, rfl⟩ | h | h)
      · rcases (ih0 d).1 hd with h | ⟨e, he, rfl⟩
        · exact .inl (.inl ⟨d, h, rfl⟩)
        · exact .inr ⟨b :: e, .inl ⟨e, he, rfl⟩, by simp⟩
      · exact .inl (.inr h)
      · obtain ⟨d, hd, rfl⟩ := h
        exact .inr ⟨d, .inr hd, rfl⟩
    · rintro ((⟨d, hd, rfl⟩ | h) | ⟨d, (⟨e, he, rfl⟩ | hd), rfl⟩)
      · exact .inl ⟨d, (ih0 d).2 (.inl hd), rfl⟩
      · exact .inr (.inl h)
      · exact .inl ⟨e ++ [a], (ih0 _).2 (.inr ⟨e, he, rfl⟩), by simp⟩
      · exact .inr (.inr ⟨d, hd, rfl⟩)
theorem combs_nil_mem {α : Type} {l : List α} : ([] : List α) ∈ combs l 0 := by simp [combs]
theorem combs_len {α : Type} : ∀ (l : List α) (m : Nat), ∀ c ∈ combs l m, c.length = m
  | _, 0, c, h => by
    simp only [combs, List.mem_singleton] at h
    subst h
    rfl
  | [], m + 1, c, h => by simp [combs] at h
  | a :: l, m + 1, c, h => by
    rw [combs_cons, List.mem_append] at h
    rcases h with h | h
    · obtain ⟨d, hd, rfl⟩ := List.mem_map.1 h
      rw [List.length_cons, combs_len l m d hd]
    · exact combs_len l (m + 1) c h
/-- A part of the villages is one of the lists. -/
theorem numK_combs {f g : Nat → Bool} : ∀ n, numK (fun k => g k && f k) n ∈ combs (numK f n) (numK (fun k => g k && f k) n).length
  | 0 => by simp [numK, combs]
  | n + 1 => by
    have ih := numK_combs (f := f) (g := g) n
    cases hf : f n with
    | false =>
      rw [numK_no (f := f) hf, numK_no (f := fun k => g k && f k) (by simp [hf])]
      exact ih
    | true =>
      rw [numK_yes (f := f) hf]
      cases hg : g n with
      | false =>
        rw [numK_no (f := fun k => g k && f k) (by simp [hg])]
        cases hm : (numK (fun k => g k && f k) n).length with
        | zero =>
          rw [List.eq_nil_of_length_eq_zero hm]
          exact combs_nil_mem
        | succ m =>
          rw [hm] at ih
          exact (combs_snoc _ _ m _).2 (.inl ih)
      | true =>
        rw [numK_yes (f := fun k => g k && f k) (by simp [hf, hg]), List.length_append, List.length_singleton]
        exact (combs_snoc _ _ _ _).2 (.inr ⟨_, ih, rfl⟩)
/-- The elements of a list, each above the one before. -/
theorem combs_rise : ∀ (l : List Int), (∀ i a b, l[i]? = some a → l[i + 1]? = some b → a < b) → ∀ (m : Nat), ∀ c ∈ combs l m, (∀ z ∈ c, z ∈ l) ∧ (∀ i a b, c[i]? = some a → c[i + 1]? = some b → a < b)
  | _, _, 0, c, h => by
    simp only [combs, List.mem_singleton] at h
    subst h
    exact ⟨fun z hz => by simp at hz, fun i a b h => by simp at h⟩
  | [], _, m + 1, c, h => by simp [combs] at h
  | x :: l, hl, m + 1, c, h => by
    have hl2 : ∀ i a b, l[i]? = some a → l[i + 1]? = some b → a < b := fun i a b h1 h2 => hl (i + 1) a b (by simpa using h1) (by simpa using h2)
    rw [combs_cons, List.mem_append] at h
    rcases h with h | h
    · obtain ⟨d, hd, rfl⟩ := List.mem_map.1 h
      obtain ⟨h1, h2⟩ := combs_rise l hl2 m d hd
      refine ⟨fun z hz => ?_, fun i a b ha hb => ?_⟩
      · rcases List.mem_cons.1 hz with rfl | hz
        · exact List.mem_cons_self
        · exact List.mem_cons_of_mem _ (h1 z hz)
      · cases i with
        | succ i => exact h2 i a b (by simpa using ha) (by simpa using hb)
        | zero =>
          obtain rfl : x = a := by simpa using ha
          have hb' : d[0]? = some b := by simpa using hb
          have hbl := h1 b (List.mem_of_getElem? hb')
          obtain ⟨j, hj⟩ := List.getElem?_of_mem hbl
          have key : ∀ (j : Nat) (b : Int), l[j]? = some b → x < b := by
            intro j
            induction j with
            | zero => intro b hb; exact hl 0 x b (by simp) (by simpa using hb)
            | succ j ih =>
              intro b hb
              obtain ⟨e, he⟩ := get_of_lt (l := l) (k := j) (by have := (List.getElem?_eq_some_iff.1 hb).1; omega)
              have h3 := ih e he
              have h4 := hl2 j e b he hb
              omega
          exact key j b hj
    · obtain ⟨h1, h2⟩ := combs_rise l hl2 (m + 1) c h
      exact ⟨fun z hz => List.mem_cons_of_mem _ (h1 z hz), h2⟩
theorem numK_rise {f : Nat → Bool} : ∀ (n i : Nat) (a b : Int), (numK f n)[i]? = some a → (numK f n)[i + 1]? = some b → a < b
  | 0, i, a, b, h, _ => by simp [numK] at h
  | n + 1, i, a, b, ha, hb => by
    cases hf : f n with
    | false =>
      rw [numK_no hf] at ha hb
      exact numK_rise n i a b ha hb
    | true =>
      rw [numK_yes hf] at ha hb
      rcases Nat.lt_or_ge (i + 1) (numK f n).length with h | h
      · rw [List.getElem?_append_left (by omega)] at ha
        rw [List.getElem?_append_left h] at hb
        exact numK_rise n i a b ha hb
      · rw [List.getElem?_append_right h] at hb
        have hi : i < (numK f n).length := by
          rcases Nat.lt_or_ge i (numK f n).length with h2 | h2
          · exact h2
          · rw [List.getElem?_eq_none (by simp; omega)] at hb
            cases hb
        rw [List.getElem?_append_left hi] at ha
        obtain ⟨j, hj, rfl, _⟩ := numK_mem (List.mem_of_getElem? ha)
        have hb2 : b = (n : Int) := by
          rw [show i + 1 - (numK f n).length = 0 by omega] at hb
          simpa using hb.symm
        omega
theorem choose_mem {f : List Int → Bool} {ag : List Int} {m : Nat} {x : List Int} (h : chooseD f ag [] 0 m = some x) : x ∈ combs ag m ∧ f x = true := by
  unfold chooseD at h
  have h1 := List.mem_of_find?_eq_some h
  have h2 := List.find?_some h
  simp only [List.drop_zero, List.nil_append, List.map_id'] at h1
  exact ⟨h1, h2⟩
theorem choose_none {f : List Int → Bool} {ag : List Int} {m : Nat} (h : chooseD f ag [] 0 m = none) : ∀ c ∈ combs ag m, f c = false := by
  unfold chooseD at h
  rw [List.find?_eq_none] at h
  simp only [List.drop_zero, List.nil_append, List.map_id'] at h
  exact fun c hc => by simpa using h c hc
theorem court_none {f : List Int → Bool} {ag : List Int} : ∀ n, courtK f ag n = none → ∀ m, m < n → ∀ c ∈ combs ag m, f c = false
  | 0, _, m, h => by omega
  | n + 1, h, m, hm => by
    have h1 : courtK f ag n = none ∧ chooseD f ag [] 0 n = none := by
      have h' : (courtK f ag n).orElse (fun _ => chooseD f ag [] 0 n) = none := h
      cases hk : courtK f ag n with
      | some x => rw [hk] at h'; cases h'
      | none => rw [hk] at h'; exact ⟨rfl, h'⟩
    by_cases he : m = n
    · subst he
      exact choose_none h1.2
    · exact court_none n h1.1 m (by omega)
theorem court_some {f : List Int → Bool} {ag x : List Int} : ∀ n, courtK f ag n = some x → ∃ m, m < n ∧ x ∈ combs ag m ∧ f x = true ∧ courtK f ag m = none ∧ chooseD f ag [] 0 m = some x
  | 0, h => by cases h
  | n + 1, h => by
    have h' : (courtK f ag n).orElse (fun _ => chooseD f ag [] 0 n) = some x := h
    cases hk : courtK f ag n with
    | some y =>
      rw [hk] at h'
      obtain ⟨m, h1, h2⟩ := court_some n (hk.trans h')
      exact ⟨m, by omega, h2⟩
    | none =>
      rw [hk] at h'
      have h2 := choose_mem h'
      exact ⟨n, by omega, h2.1, h2.2, hk, h'⟩
theorem combs_short {α : Type} : ∀ (l : List α) (m : Nat), ∀ c ∈ combs l m, c.length ≤ l.length
  | l, 0, c, h => by
    simp only [combs, List.mem_singleton] at h
    subst h
    exact Nat.zero_le _
  | [], m + 1, c, h => by simp [combs] at h
  | a :: l, m + 1, c, h => by
    rw [combs_cons, List.mem_append] at h
    rcases h with h | h
    · obtain ⟨d, hd, rfl⟩ := List.mem_map.1 h
      have := combs_short l m d hd
      simp
      omega
    · have := combs_short l (m + 1) c h
      simp
      omega
/-- More villages agree: what suffices goes on to. -/
theorem more_agree {q : Pj} {plan : List Int} {l : List Int} (h : FaultOk q) (hg : goodP q plan = true) : goodP (decQ q l) plan = true := by
  unfold goodP allowB at hg ⊢
  simp only [Bool.and_eq_true, decide_eq_true_eq, List.all_eq_true] at hg ⊢
  refine ⟨⟨fun z hz => ?_, hg.1.2⟩, hg.2⟩
  have h1 := hg.1.1 z hz
  have hv := (wdB_parts (h.ws z.2 (List.of_mem_zip hz).2)).2.2.2.1
  unfold okS at h1 ⊢
  show (!(decide (0 ≤ z.1) && (decide (0 ≤ z.2.village) && !((decL q.villages l)[z.2.village.toNat]?.getD false)))) = true
  rw [decL_get]
  by_cases hz1 : 0 ≤ z.1
  · by_cases hz2 : 0 ≤ z.2.village
    · obtain ⟨b, hb⟩ := get_of_lt (l := q.villages) (k := z.2.village.toNat) (by omega)
      rw [hb] at h1 ⊢
      simp only [decide_eq_true hz1, decide_eq_true hz2, Bool.true_and, Option.getD_some, Bool.not_not] at h1
      subst h1
      simp
    · rw [decide_eq_false hz2]
      simp
  · rw [decide_eq_false hz1]
    simp
theorem bestE_zero_iff {q : Pj} (hf : faultN q = 0) : bestE q = 0 ↔ ∃ plan, planB q.works plan = true ∧ goodP q plan = true := by
  rw [bestE_of hf]
  cases hr : bestR q with
  | none =>
    refine ⟨fun h => absurd h (by decide), fun ⟨plan, h1, h2⟩ => ?_⟩
    have := (bestR_none hf).1 hr plan h1
    rw [h2] at this
    cases this
  | some z =>
    obtain ⟨h1, h2, _⟩ := bestR_some (x := z.1) (c := z.2) hf hr
    exact ⟨fun _ => ⟨z.1, h1, h2⟩, fun _ => rfl⟩
/-- With all villages agreeing the best plan does not cost more. -/
theorem every_best {q : Pj} {l : List Int} (h : FaultOk q) (hb : bestE q = 0) : bestE (decQ q l) = 0 ∧ costOf (bestR (decQ q l)) ≤ costOf (bestR q) := by
  have hf := faultOk_iff.2 h
  have hd := faultOk_iff.2 (dec_fault h l)
  have hs := some_best hf hb
  have h1 := hs.2.1
  rw [suffB_good hf, Bool.and_eq_true] at h1
  have h2 := more_agree (l := l) h h1.2
  have h3 := (bestE_zero_iff hd).2 ⟨bestL q, h1.1, h2⟩
  refine ⟨h3, ?_⟩
  have h4 := (some_best hd h3).2.2.2.1 (bestL q) (by rw [suffB_good hd, Bool.and_eq_true]; exact ⟨h1.1, h2⟩)
  rw [hs.2.2.1]
  exact h4
theorem numK_all (n k : Nat) : (k : Int) ∈ (numK (fun _ => true) n).map (fun v => ((v.toNat : Nat) : Int)) ↔ k < n := by
  rw [numK_in]
  simp
theorem dec_twice (q : Pj) (l : List Int) : decQ (decQ q l) (numK (fun _ => true) q.villages.length) = decQ q (numK (fun _ => true) q.villages.length) := by
  unfold decQ
  dsimp only
  congr 1
  apply List.ext_getElem?
  intro k
  rw [decL_get, decL_get, decL_get]
  cases hk : q.villages[k]? with
  | none => rfl
  | some b =>
    have := (List.getElem?_eq_some_iff.1 hk).1
    simp only [Option.map_some]
    rw [decide_eq_true ((numK_all _ k).2 this)]
    simp
/-- With all villages agreeing there is a plan, if there is one with some. -/
theorem every_some {q : Pj} {l : List Int} (h : FaultOk q) (hb : bestE (decQ q l) = 0) : bestE (decQ q (numK (fun _ => true) q.villages.length)) = 0 := by
  have := (every_best (l := numK (fun _ => true) q.villages.length) (dec_fault h l) hb).1
  rw [dec_twice] at this
  exact this
/-- The villages that Court returns. -/
structure CourtOk (q : Pj) (l : List Int) : Prop where
  inn : ∀ z ∈ l, ∃ k : Nat, z = k ∧ q.villages[k]? = some false
  rise : ∀ i a b, l[i]? = some a → l[i + 1]? = some b → a < b
  best : bestE (decQ q l) = 0
  few : ∀ g : Nat → Bool, bestE (decQ q (numK g q.villages.length)) = 0 → l.length ≤ (numK (fun k => g k && notB q.villages k) q.villages.length).length
  empty : l.length = 0 ↔ bestE q = 0
  len : l.length ≤ q.villages.length
theorem courtE_of {q : Pj} (hf : faultN q = 0) : courtE q = 0 ∨ courtE q = 7 := by
  unfold courtE
  rw [if_pos hf]
  split
  · exact .inl rfl
  · exact .inr rfl
theorem court_no {q : Pj} (h : FaultOk q) (hc : courtE q = 7) : bestE q = 9 ∧ ∀ g : Nat → Bool, bestE (decQ q (numK g q.villages.length)) = 9 := by
  have hf := faultOk_iff.2 h
  have hn : courtR q = none := by
    unfold courtE at hc
    rw [if_pos hf] at hc
    cases hr : courtR q with
    | none => rfl
    | some x => rw [hr] at hc; simp at hc
  have key : ∀ g : Nat → Bool, bestE (decQ q (numK g q.villages.length)) = 9 := by
    intro g
    rw [dec_some]
    have h1 := numK_combs (f := notB q.villages) (g := g) q.villages.length
    have h2 := combs_short _ _ _ h1
    have h3 := court_none _ hn _ (Nat.lt_succ_of_le h2) _ h1
    rw [chF_best h, decide_eq_false_iff_not] at h3
    rcases bestE_two (faultOk_iff.2 (dec_fault h (numK (fun k => g k && notB q.villages k) q.villages.length))) with h4 | h4
    · exact absurd h4 h3
    · exact h4
  refine ⟨?_, key⟩
  have := key (fun _ => false)
  have e : ∀ n, numK (fun _ => false) n = [] := by
    intro n
    induction n with
    | zero => rfl
    | succ n ih => rw [numK_no rfl, ih]
  rw [e, dec_nil] at this
  exact this
theorem court_yes {q : Pj} (h : FaultOk q) (hc : courtE q = 0) : CourtOk q (courtL q) := by
  have hf := faultOk_iff.2 h
  obtain ⟨x, hx⟩ : ∃ x, courtR q = some x := by
    unfold courtE at hc
    rw [if_pos hf] at hc
    cases hr : courtR q with
    | none => rw [hr] at hc; exact absurd hc (by decide)
    | some x => exact ⟨x, rfl⟩
  have hL : courtL q = x := by unfold courtL; rw [if_pos hf, hx]; rfl
  rw [hL]
  obtain ⟨m, hm, hmem, hfx, hno, _⟩ := court_some _ hx
  have hr := combs_rise (agN q) (fun i a b => numK_rise _ i a b) m x hmem
  have hxl := combs_len _ _ _ hmem
  have hfew : ∀ g : Nat → Bool, bestE (decQ q (numK g q.villages.length)) = 0 → x.length ≤ (numK (fun k => g k && notB q.villages k) q.villages.length).length := by
    intro g hg
    rw [dec_some] at hg
    have h1 := numK_combs (f := notB q.villages) (g := g) q.villages.length
    rcases Nat.lt_or_ge (numK (fun k => g k && notB q.villages k) q.villages.length).length m with h2 | h2
    · have h3 := court_none _ hno _ h2 _ h1
      rw [chF_best h, decide_eq_false_iff_not] at h3
      exact absurd hg h3
    · omega
  refine ⟨fun z hz => ?_, hr.2, ?_, hfew, ?_, Nat.le_trans (combs_short _ _ _ hmem) (numK_len _ _)⟩
  · obtain ⟨k, _, hk, hn⟩ := numK_mem (hr.1 z hz)
    exact ⟨k, hk, notB_of hn⟩
  · rw [chF_best h, decide_eq_true_eq] at hfx
    exact hfx
  · have e : ∀ n, numK (fun _ => false) n = [] := by
      intro n
      induction n with
      | zero => rfl
      | succ n ih => rw [numK_no rfl, ih]
    constructor
    · intro hz
      have : x = [] := List.eq_nil_of_length_eq_zero hz
      subst this
      rw [chF_best h, decide_eq_true_eq, dec_nil] at hfx
      exact hfx
    · intro hz
      have h1 := hfew (fun _ => false) (by rw [e, dec_nil]; exact hz)
      have e2 : ∀ n, numK (fun k => false && notB q.villages k) n = [] := by
        intro n
        induction n with
        | zero => rfl
        | succ n ih => rw [numK_no rfl, ih]
      rw [e2] at h1
      simpa using h1
end Go.Proofs.Ytpnpnfjhjjdmgaa
