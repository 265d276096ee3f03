/- A work that is needed is built in each plan that suffices: plain laws. -/
import Derived.Test.YtpnpnfjhjjdmgaaBD
namespace Go.Proofs.Ytpnpnfjhjjdmgaa
open Go.RowKit Go.Deep

theorem bestE_refQ {q : Pj} (hf : faultN q = 0) : bestE q = if (refB q q.works.length []).2 = true then 0 else 9 := by
  have h := best_ref (plOk_of (faultOk_iff.1 hf))
  unfold bestE
  rw [if_pos hf, ← h]
  unfold asO
  cases (refB q q.works.length []).2 <;> rfl
theorem without_works_len {q : Pj} {i : Nat} : (withoutQ q i).works.length = q.works.length := by
  show (q.works.modify i _).length = _
  rw [List.length_modify]
theorem without_fault {q : Pj} {i : Nat} (h : FaultOk q) (hv : q.villages.length ≤ 5) : faultN (withoutQ q i) = 0 := by
  rw [faultOk_iff]
  refine ⟨by rw [without_works_len]; exact h.wn, h.nn, by show (q.villages ++ [false]).length ≤ 6; simp; omega, h.years, h.slopes, h.pn, h.ps, ?_, h.ns⟩
  intro y hy
  have hl : (withoutQ q i).villages.length = q.villages.length + 1 := by show (q.villages ++ [false]).length = _; simp
  rw [hl]
  have ext : ∀ z : Wd, wdB q.years q.slopes q.villages.length z = true → wdB q.years q.slopes (q.villages.length + 1) z = true := by
    intro z hz
    simp only [wdB, Bool.and_eq_true, inB, decide_eq_true_eq] at hz ⊢
    exact ⟨⟨⟨⟨⟨⟨⟨hz.1.1.1.1.1.1.1, hz.1.1.1.1.1.1.2⟩, hz.1.1.1.1.1.2⟩, hz.1.1.1.1.2⟩, hz.1.1.1.2⟩, ⟨hz.1.1.2.1, by omega⟩⟩, hz.1.2⟩, hz.2⟩
  rcases modify_mem hy with hy | ⟨z, hz, rfl⟩
  · exact ext _ (h.ws _ hy)
  · have hz2 := h.ws z hz
    show wdB q.years q.slopes (q.villages.length + 1) _ = true
    simp only [wdB, Bool.and_eq_true, inB, decide_eq_true_eq] at hz2 ⊢
    exact ⟨⟨⟨⟨⟨⟨⟨hz2.1.1.1.1.1.1.1, hz2.1.1.1.1.1.1.2⟩, hz2.1.1.1.1.1.2⟩, hz2.1.1.1.1.2⟩, hz2.1.1.1.2⟩, ⟨by omega, by omega⟩⟩, hz2.1.2⟩, hz2.2⟩
theorem bestE_without {q : Pj} {i : Nat} (h : FaultOk q) (hv : q.villages.length ≤ 5) : bestE (withoutQ q i) = if needF q i = true then 9 else 0 := by
  rw [bestE_refQ (without_fault h hv), without_works_len, need_ref (plOk_of h) (fun x hx => (wdB_parts (h.ws x hx)).2.2.2.1) i]
  cases (refB (withoutQ q i) q.works.length []).2 <;> rfl
theorem numK_split (f : Nat → Bool) (i : Nat) : ∀ n, i ≤ n → ∃ t, numK f n = numK f i ++ t ∧ ∀ z ∈ t, (i : Int) ≤ z
  | 0, h => ⟨[], by obtain rfl : i = 0 := by omega
                    simp, fun z hz => by simp at hz⟩
  | n + 1, h => by
    by_cases he : i = n + 1
    · subst he
      exact ⟨[], by simp, fun z hz => by simp at hz⟩
    · obtain ⟨t, ht, hz⟩ := numK_split f i n (by omega)
      cases hf : f n with
      | true =>
        rw [numK_yes hf, ht]
        refine ⟨t ++ [(n : Int)], by simp, fun z hz2 => ?_⟩
        rcases List.mem_append.1 hz2 with hz2 | hz2
        · exact hz z hz2
        · rw [List.mem_singleton] at hz2
          omega
      | false =>
        rw [numK_no hf]
        exact ⟨t, ht, hz⟩
theorem numK_here {f : Nat → Bool} {i n : Nat} (hi : i < n) (h : f i = true) : (numK f n)[(numK f i).length]? = some (i : Int) := by
  obtain ⟨t, ht, _⟩ := numK_split f (i + 1) n hi
  rw [ht, numK_yes h, List.append_assoc, List.getElem?_append_right (Nat.le_refl _)]
  simp
theorem numK_not {f : Nat → Bool} {i n : Nat} (hi : i < n) (h : f i = false) {z : Int} (hz : (numK f n)[(numK f i).length]? = some z) : z ≠ (i : Int) := by
  obtain ⟨t, ht, hm⟩ := numK_split f (i + 1) n hi
  rw [ht, numK_no h, List.getElem?_append_right (Nat.le_refl _)] at hz
  have := hm z (List.mem_of_getElem? hz)
  omega
theorem zip_modify {γ : Type} {f : Int × Wd → γ} {g : Wd → Wd} (hf : ∀ y x, f (y, g x) = f (y, x)) : ∀ (plan : List Int) (ws : List Wd) (i : Nat), (plan.zip (ws.modify i g)).map f = (plan.zip ws).map f
  | [], _, _ => by simp
  | y :: plan, [], i => by cases i <;> simp
  | y :: plan, x :: ws, 0 => by simp [hf]
  | y :: plan, x :: ws, i + 1 => by
    have := zip_modify hf plan ws i
    simp [this]
/-- A plan that suffices, and does not build a work, suffices without it. -/
theorem without_good {q : Pj} {plan : List Int} {i : Nat} {y : Int} (h : FaultOk q) (hp : planB q.works plan = true) (hg : goodP q plan = true) (hy : plan[i]? = some y) (hy0 : y < 0) : planB (withoutQ q i).works plan = true ∧ goodP (withoutQ q i) plan = true := by
  have hpl := plan_iff.1 hp
  have hat : ∀ (k : Nat) (x : Wd), (withoutQ q i).works[k]? = some x → ∃ z, q.works[k]? = some z ∧ x = if i = k then { z with village := (q.villages.length : Int) } else z := by
    intro k x hx
    cases hz : q.works[k]? with
    | none =>
      have h1 : (withoutQ q i).works[k]? = none := by
        show (q.works.modify i _)[k]? = none
        rw [List.getElem?_modify, hz]
        rfl
      rw [h1] at hx
      cases hx
    | some z =>
      rw [without_at hz] at hx
      exact ⟨z, rfl, by injection hx with hx; exact hx.symm⟩
  constructor
  · rw [plan_iff, without_works_len]
    refine ⟨hpl.1, fun k b x hb hx => ?_⟩
    obtain ⟨z, hz, he⟩ := hat k x hx
    have := hpl.2 k b z hb hz
    rw [he]
    split
    · exact this
    · exact this
  · unfold goodP at hg ⊢
    simp only [Bool.and_eq_true, decide_eq_true_eq] at hg ⊢
    have hm : missP (withoutQ q i) plan = missP q plan := by
      have ht : ∀ (s : Nat) (yr : Int), togN false s yr (withoutQ q i).works plan = togN false s yr q.works plan := by
        intro s yr
        unfold togN togL
        rw [show (withoutQ q i).works = q.works.modify i (fun x => { x with village := (q.villages.length : Int) }) from rfl, zip_modify (g := fun x : Wd => { x with village := (q.villages.length : Int) }) (f := fun q : Int × Wd => addsN q.2 q.1 yr (endR false (rAt q.2.adds s))) (fun _ _ => rfl)]
      unfold missP
      have : missB (withoutQ q i).works plan = missB q.works plan := by
        funext n
        unfold missB
        rw [ht]
      rw [this]
      rfl
    rw [hm]
    refine ⟨?_, hg.2⟩
    have ha := hg.1
    unfold allowB at ha ⊢
    rw [Bool.and_eq_true] at ha ⊢
    refine ⟨?_, ?_⟩
    · rw [List.all_eq_true] at ha ⊢
      intro w hw
      obtain ⟨k, hk⟩ := List.getElem?_of_mem hw
      rw [List.getElem?_zip_eq_some] at hk
      obtain ⟨z, hz, he⟩ := hat k w.2 hk.2
      have h1 := ha.1 (w.1, z) (List.mem_of_getElem? (zip_at hk.1 hz))
      by_cases hik : i = k
      · subst hik
        rw [hy] at hk
        have h2 : y = w.1 := by have := hk.1; injection this
        unfold okS
        rw [decide_eq_false (by omega)]
        rfl
      · rw [if_neg hik] at he
        rw [show w = (w.1, z) by rw [← he]]
        have hv := (wdB_parts (h.ws z (List.mem_of_getElem? hz))).2.2.2.1
        unfold okS at h1 ⊢
        dsimp only at h1 ⊢
        by_cases hzv : 0 ≤ z.village
        · rw [show (withoutQ q i).villages = q.villages ++ [false] from rfl, List.getElem?_append_left (by omega)]
          exact h1
        · rw [decide_eq_false hzv]
          simp
    · have hsp : spL (withoutQ q i).works plan = spL q.works plan := by
        unfold spL spK
        have : ∀ yr : Int, spT (withoutQ q i).works plan yr = spT q.works plan yr := by
          intro yr
          unfold spT
          rw [show (withoutQ q i).works = q.works.modify i (fun x => { x with village := (q.villages.length : Int) }) from rfl, zip_modify (g := fun x : Wd => { x with village := (q.villages.length : Int) }) (f := fun q : Int × Wd => if q.1 = yr then q.2.price else 0) (fun _ _ => rfl)]
        simp only [this]
      rw [hsp]
      exact ha.2
theorem need_built {q : Pj} {plan : List Int} {i : Nat} {y : Int} (h : FaultOk q) (hv : q.villages.length ≤ 5) (hs : suffB q plan = true) (hn : needF q i = true) (hy : plan[i]? = some y) : ¬ (y < 0) := by
  intro hy0
  rw [suffB_good (faultOk_iff.2 h), Bool.and_eq_true] at hs
  obtain ⟨h1, h2⟩ := without_good h hs.1 hs.2 hy hy0
  have h3 := bestE_without (i := i) h hv
  rw [if_pos hn, bestE_of (without_fault h hv)] at h3
  cases hb : bestR (withoutQ q i) with
  | some z => rw [hb] at h3; simp at h3
  | none =>
    have := (bestR_none (without_fault h hv)).1 hb plan h1
    rw [h2] at this
    cases this
theorem pjOk_of {p : Pm} (h : FaultOk p.pj) : PjOk p := fault_ok (faultOk_iff.2 h)
theorem few_of {p : Pm} (h : PjOk p) : PmFew p where
  ws := by have := h.wn; omega
  ad x hx := by
    have h1 := wdB_parts (h.ws x hx)
    have h2 := h.slopes
    omega
  ns := by have := h.nn; omega
  vs := by have := h.vn; omega
  ps := by have := h.pn; have := h.years; omega
end Go.Proofs.Ytpnpnfjhjjdmgaa
