/- Plain law: the ends of what is known. -/
import Derived.Test.YtpmafnifgegfbaaPA
namespace Go.Proofs.Ytpmafnifgegfbaa


/-- A survey with another range of a spot. -/
def spotS (s : Sd) (k : Nat) (p : Sp) : Sd := { s with spots := s.spots.set k p }
theorem spotS_len (s : Sd) (k : Nat) (p : Sp) : (spotS s k p).spots.length = s.spots.length := by unfold spotS; rw [List.length_set]
theorem spotS_ok {s : Sd} (h : SdOk s) {k : Nat} {p : Sp} (hp : rgOk p.x ∧ rgOk p.y) : SdOk (spotS s k p) := by
  have e := spotS_len s k p
  refine ⟨by rw [e]; exact h.spots, h.few, h.strain, h.day, h.reads, fun q hq => ?_, fun t ht => by rw [e]; exact h.tool t ht, h.read⟩
  rcases List.mem_or_eq_of_mem_set hq with h1 | h1
  · exact h.spot q h1
  · rw [h1]; exact hp
theorem spotS_agree {s : Sd} (h : SdOk s) {k : Nat} {p p' : Sp} (hk : s.spots[k]? = some p) (hp : rgOk p'.x ∧ rgOk p'.y) (hsub : ∀ m, m ∈ movesL p' → m ∈ movesL p) {f : Nat → Mv} : Agree (spotS s k p') (freeL (spotS s k p')) f ↔ Agree s (freeL s) f ∧ f k ∈ movesL p' := by
  have h' := spotS_ok h (k := k) hp
  have hkl := (List.getElem?_eq_some_iff.1 hk).1
  rw [agree_parts h.toolIn, agree_parts h'.toolIn]
  have e1 : ToolsOk (spotS s k p') (freeL (spotS s k p')) f ↔ ToolsOk s (freeL s) f := Iff.rfl
  rw [e1]
  have hat : ∀ i : Nat, (spotS s k p').spots[i]? = if i = k then some p' else s.spots[i]? := fun i => by
    unfold spotS
    simp only [List.getElem?_set]
    by_cases e : k = i
    · subst e
      rw [if_pos rfl, if_pos hkl, if_pos rfl]
    · rw [if_neg e, if_neg (Ne.symm e)]
  have e2 : FieldIn (spotS s k p') f ↔ FieldIn s f ∧ f k ∈ movesL p' := by
    unfold FieldIn
    rw [spotS_len]
    constructor
    · rintro ⟨h1, h2⟩
      have h3 : f k ∈ movesL p' := h1 k p' (by rw [hat, if_pos rfl])
      refine ⟨⟨fun i q hq => ?_, h2⟩, h3⟩
      by_cases e : i = k
      · subst e
        rw [hk] at hq
        injection hq with hq
        subst hq
        exact hsub _ h3
      · exact h1 i q (by rw [hat, if_neg e]; exact hq)
    · rintro ⟨⟨h1, h2⟩, h3⟩
      refine ⟨fun i q hq => ?_, h2⟩
      rw [hat] at hq
      by_cases e : i = k
      · rw [if_pos e] at hq
        injection hq with hq
        rw [e, ← hq]
        exact h3
      · rw [if_neg e] at hq
        exact h1 i q hq
  rw [e2]
  exact ⟨fun ⟨⟨a, b⟩, c⟩ => ⟨⟨a, c⟩, b⟩, fun ⟨⟨a, c⟩, b⟩ => ⟨⟨a, b⟩, c⟩⟩
/-- The ranges that are tried, and which of them are outside. -/
def endsT (p l : Sp) : List Sp := [⟨⟨l.x.lo, l.x.lo⟩, p.y⟩, ⟨⟨l.x.hi, l.x.hi⟩, p.y⟩, ⟨p.x, ⟨l.y.lo, l.y.lo⟩⟩, ⟨p.x, ⟨l.y.hi, l.y.hi⟩⟩, ⟨⟨l.x.lo - 1, l.x.lo - 1⟩, p.y⟩, ⟨⟨l.x.hi + 1, l.x.hi + 1⟩, p.y⟩, ⟨p.x, ⟨l.y.lo - 1, l.y.lo - 1⟩⟩, ⟨p.x, ⟨l.y.hi + 1, l.y.hi + 1⟩⟩]
def outsT (p l : Sp) : List Bool := [false, false, false, false, decide (l.x.lo = p.x.lo), decide (l.x.hi = p.x.hi), decide (l.y.lo = p.y.lo), decide (l.y.hi = p.y.hi)]
theorem learn_in {s : Sd} (hok : okS s (freeL s) = true) (h : SdOk s) {k : Nat} {p : Sp} (hk : s.spots[k]? = some p) : (p.x.lo ≤ (learnN s k).x.lo ∧ (learnN s k).x.lo ≤ (learnN s k).x.hi ∧ (learnN s k).x.hi ≤ p.x.hi) ∧ p.y.lo ≤ (learnN s k).y.lo ∧ (learnN s k).y.lo ≤ (learnN s k).y.hi ∧ (learnN s k).y.hi ≤ p.y.hi := by
  have hkl := (List.getElem?_eq_some_iff.1 hk).1
  have hex := (ok_iff (by have := h.spots; omega)).1 hok
  have hin : ∀ f, Agree s (freeL s) f → (p.x.lo ≤ (f k).1 ∧ (f k).1 ≤ p.x.hi) ∧ p.y.lo ≤ (f k).2 ∧ (f k).2 ≤ p.y.hi := fun f hf => mem_moves.1 (((agree_parts h.toolIn).1 hf).1.1 k p hk)
  obtain ⟨⟨f1, a1, b1⟩, ⟨f2, a2, b2⟩, ⟨f3, a3, b3⟩, ⟨f4, a4, b4⟩⟩ := learn_end hex hkl
  have c1 := hin f1 a1
  have c2 := hin f2 a2
  have c3 := hin f3 a3
  have c4 := hin f4 a4
  have d1 := learn_has a1 hkl
  omega
theorem ends_law {s : Sd} (h : SdOk s) (hok : okS s (freeL s) = true) {k : Nat} {p : Sp} (hk : s.spots[k]? = some p) {n : Nat} {e : Sp} (he : (endsT p (learnN s k))[n]? = some e) (hn : (outsT p (learnN s k))[n]? = some false) :
    SdOk (spotS s k e) ∧ okS (spotS s k e) (freeL (spotS s k e)) = decide (n < 4) := by
  have hkl := (List.getElem?_eq_some_iff.1 hk).1
  have hin := learn_in hok h hk
  have hsp := h.spot p (List.mem_of_getElem? hk)
  have hex := (ok_iff (by have := h.spots; omega)).1 hok
  obtain ⟨⟨f1, a1, b1⟩, ⟨f2, a2, b2⟩, ⟨f3, a3, b3⟩, ⟨f4, a4, b4⟩⟩ := learn_end hex hkl
  have hmv : ∀ f, Agree s (freeL s) f → (p.x.lo ≤ (f k).1 ∧ (f k).1 ≤ p.x.hi) ∧ p.y.lo ≤ (f k).2 ∧ (f k).2 ≤ p.y.hi := fun f hf => mem_moves.1 (((agree_parts h.toolIn).1 hf).1.1 k p hk)
  have hhas := fun f (hf : Agree s (freeL s) f) => learn_has hf hkl
  obtain ⟨l, hl⟩ : ∃ l, l = learnN s k := ⟨_, rfl⟩
  rw [← hl] at he hn hin b1 b2 b3 b4 hhas
  have key : ∀ e : Sp, (rgOk e.x ∧ rgOk e.y) → (∀ m, m ∈ movesL e → m ∈ movesL p) → ∀ b : Bool, (b = true → ∃ f, Agree s (freeL s) f ∧ f k ∈ movesL e) → (b = false → ∀ f, Agree s (freeL s) f → f k ∈ movesL e → False) → SdOk (spotS s k e) ∧ okS (spotS s k e) (freeL (spotS s k e)) = b := fun e he hs b hb1 hb2 => by
    have h' := spotS_ok h (k := k) he
    refine ⟨h', ?_⟩
    cases b with
    | true =>
      obtain ⟨f, g1, g2⟩ := hb1 rfl
      exact (ok_iff (by have := h'.spots; omega)).2 ⟨f, (spotS_agree h hk he hs).2 ⟨g1, g2⟩⟩
    | false =>
      refine Bool.eq_false_iff.2 fun ht => ?_
      obtain ⟨f, g1⟩ := (ok_iff (by have := h'.spots; omega)).1 ht
      have g2 := (spotS_agree h hk he hs).1 g1
      exact hb2 rfl f g2.1 g2.2
  obtain ⟨⟨x1, x2, x3, x4⟩, ⟨y1, y2, y3, y4⟩⟩ := hsp
  match n, he, hn with
  | 0, he, hn =>
    obtain rfl := Option.some.inj he
    refine key ⟨⟨l.x.lo, l.x.lo⟩, p.y⟩ ⟨⟨by dsimp only; omega, by dsimp only; omega, by dsimp only; omega, by dsimp only; omega⟩, y1, y2, y3, y4⟩ (fun m hm => ?_) true (fun _ => ⟨f1, a1, ?_⟩) (fun h => by cases h)
    · have h2 := mem_moves.1 hm
      refine mem_moves.2 ?_
      dsimp only at h2
      omega
    · have h3 := hmv f1 a1
      refine mem_moves.2 ?_
      dsimp only
      omega
  | 1, he, hn =>
    obtain rfl := Option.some.inj he
    refine key ⟨⟨l.x.hi, l.x.hi⟩, p.y⟩ ⟨⟨by dsimp only; omega, by dsimp only; omega, by dsimp only; omega, by dsimp only; omega⟩, y1, y2, y3, y4⟩ (fun m hm => ?_) true (fun _ => ⟨f2, a2, ?_⟩) (fun h => by cases h)
    · have h2 := mem_moves.1 hm
      refine mem_moves.2 ?_
      dsimp only at h2
      omega
    · have h3 := hmv f2 a2
      refine mem_moves.2 ?_
      dsimp only
      omega
  | 2, he, hn =>
    obtain rfl := Option.some.inj he
    refine key ⟨p.x, ⟨l.y.lo, l.y.lo⟩⟩ ⟨⟨x1, x2, x3, x4⟩, by dsimp only; omega, by dsimp only; omega, by dsimp only; omega, by dsimp only; omega⟩ (fun m hm => ?_) true (fun _ => ⟨f3, a3, ?_⟩) (fun h => by cases h)
    · have h2 := mem_moves.1 hm
      refine mem_moves.2 ?_
      dsimp only at h2
      omega
    · have h3 := hmv f3 a3
      refine mem_moves.2 ?_
      dsimp only
      omega
  | 3, he, hn =>
    obtain rfl := Option.some.inj he
    refine key ⟨p.x, ⟨l.y.hi, l.y.hi⟩⟩ ⟨⟨x1, x2, x3, x4⟩, by dsimp only; omega, by dsimp only; omega, by dsimp only; omega, by dsimp only; omega⟩ (fun m hm => ?_) true (fun _ => ⟨f4, a4, ?_⟩) (fun h => by cases h)
    · have h2 := mem_moves.1 hm
      refine mem_moves.2 ?_
      dsimp only at h2
      omega
    · have h3 := hmv f4 a4
      refine mem_moves.2 ?_
      dsimp only
      omega
  | 4, he, hn =>
    obtain rfl := Option.some.inj he
    have hne := of_decide_eq_false (Option.some.inj hn)
    refine key ⟨⟨l.x.lo - 1, l.x.lo - 1⟩, p.y⟩ ⟨⟨by dsimp only; omega, by dsimp only; omega, by dsimp only; omega, by dsimp only; omega⟩, y1, y2, y3, y4⟩ (fun m hm => ?_) false (fun h => by cases h) (fun _ f hf hm => ?_)
    · have h2 := mem_moves.1 hm
      refine mem_moves.2 ?_
      dsimp only at h2
      omega
    · have h2 := mem_moves.1 hm
      have h3 := hhas f hf
      dsimp only at h2
      omega
  | 5, he, hn =>
    obtain rfl := Option.some.inj he
    have hne := of_decide_eq_false (Option.some.inj hn)
    refine key ⟨⟨l.x.hi + 1, l.x.hi + 1⟩, p.y⟩ ⟨⟨by dsimp only; omega, by dsimp only; omega, by dsimp only; omega, by dsimp only; omega⟩, y1, y2, y3, y4⟩ (fun m hm => ?_) false (fun h => by cases h) (fun _ f hf hm => ?_)
    · have h2 := mem_moves.1 hm
      refine mem_moves.2 ?_
      dsimp only at h2
      omega
    · have h2 := mem_moves.1 hm
      have h3 := hhas f hf
      dsimp only at h2
      omega
  | 6, he, hn =>
    obtain rfl := Option.some.inj he
    have hne := of_decide_eq_false (Option.some.inj hn)
    refine key ⟨p.x, ⟨l.y.lo - 1, l.y.lo - 1⟩⟩ ⟨⟨x1, x2, x3, x4⟩, by dsimp only; omega, by dsimp only; omega, by dsimp only; omega, by dsimp only; omega⟩ (fun m hm => ?_) false (fun h => by cases h) (fun _ f hf hm => ?_)
    · have h2 := mem_moves.1 hm
      refine mem_moves.2 ?_
      dsimp only at h2
      omega
    · have h2 := mem_moves.1 hm
      have h3 := hhas f hf
      dsimp only at h2
      omega
  | 7, he, hn =>
    obtain rfl := Option.some.inj he
    have hne := of_decide_eq_false (Option.some.inj hn)
    refine key ⟨p.x, ⟨l.y.hi + 1, l.y.hi + 1⟩⟩ ⟨⟨x1, x2, x3, x4⟩, by dsimp only; omega, by dsimp only; omega, by dsimp only; omega, by dsimp only; omega⟩ (fun m hm => ?_) false (fun h => by cases h) (fun _ f hf hm => ?_)
    · have h2 := mem_moves.1 hm
      refine mem_moves.2 ?_
      dsimp only at h2
      omega
    · have h2 := mem_moves.1 hm
      have h3 := hhas f hf
      dsimp only at h2
      omega
  | n + 8, he, hn => cases he

end Go.Proofs.Ytpmafnifgegfbaa
