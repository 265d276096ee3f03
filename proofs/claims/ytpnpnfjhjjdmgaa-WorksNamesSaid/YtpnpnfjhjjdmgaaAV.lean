/- A work is needed just where the reference finds no plan without it: plain law. -/
import Derived.Test.YtpnpnfjhjjdmgaaAQ
namespace Go.Proofs.Ytpnpnfjhjjdmgaa

/-- A project in which a work may not be built. -/
def withoutQ (q : Pj) (i : Nat) : Pj := { q with works := q.works.modify i (fun x => { x with village := (q.villages.length : Int) }), villages := q.villages ++ [false] }
theorem fold_some {S Y : Type} {X : Srch S Y} {first : Bool} {l : List Y} : ∀ (L : List (List Y × S)) (b : Option (List Y × Int)), (L.foldl (stepE X first l) b).isSome = (b.isSome || L.any fun p => !X.cut p.2 && X.enough p.2)
  | [], b => by simp
  | p :: L, b => by
    rw [List.foldl_cons, fold_some L, List.any_cons, ← Bool.or_assoc]
    congr 1
    unfold stepE
    cases hc : (!X.cut p.2 && X.enough p.2) with
    | false => simp
    | true =>
      cases b with
      | none => simp [imp]
      | some z =>
        rw [Bool.true_and]
        split <;> simp
theorem without_at {q : Pj} {i k : Nat} {x : Wd} (h : q.works[k]? = some x) : (withoutQ q i).works[k]? = some (if i = k then { x with village := (q.villages.length : Int) } else x) := by
  show (q.works.modify i _)[k]? = _
  rw [List.getElem?_modify, h]
  by_cases hik : i = k
  · rw [if_pos hik]
    simp [hik]
  · rw [if_neg hik]
    simp [hik]
theorem agree_more {vs : List Bool} {x : Wd} (h : -1 ≤ x.village ∧ x.village ≤ (vs.length : Int) - 1) : agreeB (vs ++ [false]) x = agreeB vs x := by
  unfold agreeB
  by_cases hv : x.village = -1
  · rw [decide_eq_true hv]
    rfl
  · rw [List.getElem?_append_left (by omega)]
theorem agree_none {vs : List Bool} {x : Wd} : agreeB (vs ++ [false]) { x with village := (vs.length : Int) } = false := by
  unfold agreeB
  rw [decide_eq_false (show ¬ ((vs.length : Int) = -1) by omega)]
  simp
theorem without_kids {q : Pj} {i : Nat} (hv : ∀ x ∈ q.works, -1 ≤ x.village ∧ x.village ≤ (q.villages.length : Int) - 1) (s : Sx) : kidsS q (i : Int) s = kidsS (withoutQ q i) (-1) s := by
  unfold kidsS
  cases hx : q.works[s.n]? with
  | none =>
    have h1 : (withoutQ q i).works[s.n]? = none := by
      show (q.works.modify i _)[s.n]? = none
      rw [List.getElem?_modify, hx]
      rfl
    rw [h1]
  | some x =>
    rw [without_at hx]
    dsimp only
    rw [decide_eq_false (show ¬ ((s.n : Int) = -1) by omega), Bool.false_or]
    by_cases hi : i = s.n
    · rw [if_pos hi, decide_eq_true (show (s.n : Int) = (i : Int) by omega), Bool.true_or, show (withoutQ q i).villages = q.villages ++ [false] from rfl, agree_none]
      rfl
    · rw [if_neg hi, decide_eq_false (show ¬ ((s.n : Int) = (i : Int)) by omega), Bool.false_or, show (withoutQ q i).villages = q.villages ++ [false] from rfl, agree_more (hv x (List.mem_of_getElem? hx))]
theorem buildA_village (x : Wd) (v y : Int) (ns : List Nd) (a : List Int) : ∀ k, buildA { x with village := v } y ns a k = buildA x y ns a k
  | 0 => rfl
  | k + 1 => by
    unfold buildA
    rw [buildA_village x v y ns a k]
    rfl
theorem without_build {q : Pj} {i : Nat} (s : Sx) (y : Int) : bldS q s y = bldS (withoutQ q i) s y := by
  unfold bldS
  cases hx : q.works[s.n]? with
  | none =>
    have h1 : (withoutQ q i).works[s.n]? = none := by
      show (q.works.modify i _)[s.n]? = none
      rw [List.getElem?_modify, hx]
      rfl
    rw [h1]
  | some x =>
    rw [without_at hx]
    dsimp only
    by_cases hi : i = s.n
    · rw [if_pos hi]
      unfold buildS
      rw [buildA_village x (q.villages.length : Int)]
      rfl
    · rw [if_neg hi]
      rfl
theorem without_ends {q : Pj} {i : Nat} (hv : ∀ x ∈ q.works, -1 ≤ x.village ∧ x.village ≤ (q.villages.length : Int) - 1) : ∀ (r : Nat) (s : Sx), ends (srch q (i : Int)) r s = ends (srch (withoutQ q i) (-1)) r s
  | 0, _ => rfl
  | r + 1, s => by
    unfold ends
    have hk : (srch q (i : Int)).kids s = (srch (withoutQ q i) (-1)).kids s := without_kids hv s
    rw [hk]
    congr 1
    funext y
    have hb : (srch q (i : Int)).build s y = (srch (withoutQ q i) (-1)).build s y := without_build s y
    rw [hb, without_ends hv r]
theorem without_ok {q : Pj} (hq : PlOk q) (i : Nat) : PlOk (withoutQ q i) where
  ws x hx := by
    obtain ⟨k, hk⟩ := List.getElem?_of_mem hx
    obtain ⟨z, hz⟩ : ∃ z, q.works[k]? = some z := by
      cases h : q.works[k]? with
      | some z => exact ⟨z, rfl⟩
      | none =>
        have h1 : (withoutQ q i).works[k]? = none := by
          show (q.works.modify i _)[k]? = none
          rw [List.getElem?_modify, h]
          rfl
        rw [h1] at hk
        cases hk
    rw [without_at hz] at hk
    have h := hq.ws z (List.mem_of_getElem? hz)
    injection hk with hk
    subst hk
    split
    · exact ⟨h.1, h.2.1, h.2.2.1, h.2.2.2.1, h.2.2.2.2.1, by show -1 ≤ (q.villages.length : Int); omega, h.2.2.2.2.2.2⟩
    · exact h
  ns := hq.ns
  nn := hq.nn
/-- A work is needed just where there is no plan without it. -/
theorem need_ref {q : Pj} (hq : PlOk q) (hv : ∀ x ∈ q.works, -1 ≤ x.village ∧ x.village ≤ (q.villages.length : Int) - 1) (i : Nat) : needF q i = !(refB (withoutQ q i) q.works.length []).2 := by
  have hl : (withoutQ q i).works.length = q.works.length := by show (q.works.modify i _).length = _; simp
  have h1 := best_ref (without_ok hq i)
  rw [hl] at h1
  have h2 : (asO (withoutQ q i).works (refB (withoutQ q i) q.works.length [])).isSome = (refB (withoutQ q i) q.works.length []).2 := by
    unfold asO
    cases (refB (withoutQ q i) q.works.length []).2 <;> rfl
  unfold needF
  rw [← h2, h1]
  congr 1
  unfold bestD
  rw [show q.works.length - sx0.n = q.works.length from rfl, show (withoutQ q i).works.length - sx0.n = q.works.length from hl]
  rw [(tryP_is (srch_ok q (i : Int) fun x hx => (hq.ws x hx).1) q.works.length sx0 [] [] none rfl (fun s hs => by simp at hs)).1]
  rw [(tryP_is (srch_ok (withoutQ q i) (-1) fun x hx => ((without_ok hq i).ws x hx).1) q.works.length sx0 [] [] none (by show (withoutQ q i).works.length - 0 = _; rw [hl]; rfl) (fun s hs => by simp at hs)).1]
  rw [fold_some, fold_some, without_ends hv]
  rfl
end Go.Proofs.Ytpnpnfjhjjdmgaa
