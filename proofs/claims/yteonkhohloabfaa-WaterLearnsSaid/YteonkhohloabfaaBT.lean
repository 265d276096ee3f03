/- Plain laws of Learn: which soaks agree with readings. -/
import Derived.Test.YteonkhohloabfaaBS
namespace Go.Proofs.Yteonkhohloabfaa

theorem lvL_mono {g : Gnd} {days : List Day} (hf : faultN g days = 0) {s' s : Int} (h0 : g.klo ≤ s') (h1 : s' ≤ s) (h2 : s ≤ g.khi) {p : Int × Int} (hp : 0 ≤ p.1 ∧ p.1 < g.cells.length ∧ 0 ≤ p.2 ∧ p.2 < days.length) : lvL g days s' p ≤ lvL g days s p := by
  have ok := wayOk_soak hf (soak := s) (by omega) h2
  have ok' := wayOk_soak hf (soak := s') h0 (by omega)
  exact (stAt_mono ok ok' (Drier.refl _) h1 (fun _ _ => Int.le_refl _) (fun _ _ => Int.le_refl _) (Int.le_refl _) (p.2.toNat + 1) (by omega)).1 p.1.toNat (by omega)

theorem set_all {α : Type} (f : α → Bool) (c : Bool) : ∀ (l : List α) (i : Nat) (a b : α), l[i]? = some a → f b = (f a && c) → (l.set i b).all f = (l.all f && c)
  | [], _, _, _, h, _ => by simp at h
  | x :: l, 0, a, b, h, hb => by
    simp at h
    subst h
    simp only [List.set_cons_zero, List.all_cons, hb]
    cases f x <;> cases c <;> simp
  | x :: l, i + 1, a, b, h, hb => by
    simp only [List.set_cons_succ, List.all_cons]
    rw [set_all f c l i a b (by simpa using h) hb]
    cases f x <;> simp
/-- Is a level right by what a spot allows? -/
def fitR (V : Int × Int → Int) (p : (Int × Int) × (Int × Int)) : Bool := inB (V p.1) p.2.1 p.2.2
theorem fit_meet (x lo hi a b : Int) : inB x (mxI lo a) (mnI hi b) = (inB x lo hi && inB x a b) := by
  rw [Bool.eq_iff_iff]
  have h1 := mxI_ge lo a
  have h2 := mnI_le hi b
  generalize mxI lo a = p at h1
  generalize mnI hi b = q at h2
  simp only [inB, Bool.and_eq_true, decide_eq_true_eq]
  constructor
  · rintro ⟨h3, h4⟩
    refine ⟨⟨?_, ?_⟩, ?_, ?_⟩ <;> omega
  · rintro ⟨⟨h3, h4⟩, h5, h6⟩
    refine ⟨?_, ?_⟩ <;> omega
theorem step_all (V : Int × Int → Int) (acc : Rdm) (x : Rdg) : (readStep acc x).all (fitR V) = (acc.all (fitR V) && inB (V (x.cell, x.day)) x.lo x.hi) := by
  unfold readStep putR meetR
  cases h : atR (x.cell, x.day) acc 0 with
  | none =>
    simp only [List.all_append, List.all_cons, List.all_nil, Bool.and_true, fitR, fit_meet, Bool.and_self]
  | some iv =>
    obtain ⟨i, lo, hi⟩ := iv
    obtain ⟨_, h2⟩ := atR_some h
    exact set_all (fitR V) _ acc i _ _ h2 (fit_meet _ _ _ _ _)
theorem readM_all (V : Int × Int → Int) : ∀ (l : List Rdg) (acc : Rdm), (l.foldl readStep acc).all (fitR V) = (acc.all (fitR V) && l.all fun x => inB (V (x.cell, x.day)) x.lo x.hi)
  | [], acc => by simp
  | x :: l, acc => by
    rw [List.foldl_cons, readM_all V l, step_all, List.all_cons, Bool.and_assoc]
theorem all_two {α : Type} (p q : α → Bool) : ∀ l : List α, (l.all fun x => p x && q x) = (l.all p && l.all q)
  | [] => rfl
  | x :: l => by
    simp only [List.all_cons, all_two p q l]
    cases p x <;> cases q x <;> simp
/-- Readings agree with a soak if the level is right at each spot. -/
theorem ag_two (g : Gnd) (days : List Day) (l : List Rdg) (s : Int) : l.all (agB g days s) = (allB g days (readM l) geLo s && allB g days (readM l) leHi s) := by
  have h := readM_all (lvL g days s) l []
  simp only [List.all_nil, Bool.true_and] at h
  unfold allB
  rw [← all_two]
  exact h.symm
theorem ge_up {g : Gnd} {days : List Day} {l : List Rdg} (hf : faultN g days = 0) (hall : l.all (rdgB g.cells.length days.length) = true) {s' s : Int} (h0 : g.klo ≤ s') (h1 : s' ≤ s) (h2 : s ≤ g.khi) (h : allB g days (readM l) geLo s' = true) : allB g days (readM l) geLo s = true := by
  unfold allB at *
  rw [List.all_eq_true] at h ⊢
  intro p hp
  have hsp := readM_spots l (fun x hx => List.all_eq_true.1 hall x hx) p hp
  have hm := lvL_mono hf h0 h1 h2 hsp
  have := h p hp
  simp only [geLo, decide_eq_true_eq] at this ⊢
  omega
theorem le_down {g : Gnd} {days : List Day} {l : List Rdg} (hf : faultN g days = 0) (hall : l.all (rdgB g.cells.length days.length) = true) {s' s : Int} (h0 : g.klo ≤ s') (h1 : s' ≤ s) (h2 : s ≤ g.khi) (h : allB g days (readM l) leHi s = true) : allB g days (readM l) leHi s' = true := by
  unfold allB at *
  rw [List.all_eq_true] at h ⊢
  intro p hp
  have hsp := readM_spots l (fun x hx => List.all_eq_true.1 hall x hx) p hp
  have hm := lvL_mono hf h0 h1 h2 hsp
  have := h p hp
  simp only [leHi, decide_eq_true_eq] at this ⊢
  omega
theorem halved_up {p : Int → Bool} {a b n : Int} (h : Halved p a b n (n - 1)) (up : ∀ s' s, a ≤ s' → s' ≤ s → s ≤ b → p s' = true → p s = true) {s : Int} (h0 : a ≤ s) (h1 : s ≤ b) : p s = true ↔ n ≤ s := by
  constructor
  · intro hp
    rcases Int.lt_or_le s n with hlt | hle
    · exfalso
      rcases h.lower with e | e
      · omega
      · have h3 := h.le3
        have := up s (n - 1) h0 (by omega) (by omega) hp
        rw [e] at this
        cases this
    · exact hle
  · intro hn
    rcases h.upper with e | e
    · omega
    · rw [show n - 1 + 1 = n by omega] at e
      exact up n s h.le1 hn h1 e
/-- What Learn finds are just the soaks that agree. -/
theorem learn_says {g : Gnd} {days : List Day} {l : List Rdg} (hf : faultN g days = 0) (hall : l.all (rdgB g.cells.length days.length) = true) {n m : Int} (hn : Halved (allB g days (readM l) geLo) g.klo g.khi n (n - 1)) (hm : Halved (fun x => !allB g days (readM l) leHi x) g.klo g.khi m (m - 1)) {s : Int} (h0 : g.klo ≤ s) (h1 : s ≤ g.khi) :
    l.all (agB g days s) = inB s n (m - 1) := by
  have a := halved_up hn (fun s' s h0 h1 h2 h => ge_up hf hall h0 h1 h2 h) h0 h1
  have b := halved_up hm (fun s' s h0 h1 h2 h => by
    cases hq : allB g days (readM l) leHi s with
    | false => rfl
    | true => rw [le_down hf hall h0 h1 h2 hq] at h; cases h) h0 h1
  have b' : allB g days (readM l) leHi s = true ↔ s ≤ m - 1 := by
    cases hq : allB g days (readM l) leHi s with
    | false =>
      rw [hq] at b
      have := b.1 rfl
      constructor
      · intro h; cases h
      · intro h; omega
    | true =>
      rw [hq] at b
      constructor
      · intro _
        rcases Int.lt_or_le s m with h | h
        · omega
        · have := b.2 h; cases this
      · intro _; rfl
  rw [ag_two, Bool.eq_iff_iff]
  simp only [inB, Bool.and_eq_true, decide_eq_true_eq]
  rw [a, b']
end Go.Proofs.Yteonkhohloabfaa
