/- The best plan, a plan by words, whether a plan suffices, as lists in memory. -/
import Derived.Test.YtpnpnfjhjjdmgaaBC
import Derived.Test.YtpnpnfjhjjdmgaaAS
import Derived.Test.YtpnpnfjhjjdmgaaAU
namespace Go.Proofs.Ytpnpnfjhjjdmgaa
open Go.RowKit Go.Deep

theorem Try.underlying77 : Try.prog.underlying 77 = some (.int .u32) := by kernel_rfl
def bestL (q : Pj) : List Int := match bestR q with
  | some z => z.1
  | none => []
def bestC (L : List Int) (n E : Int) (w : World) (e : Ending) (w' : World) : Prop := (∃ A c, e = .returned (.tuple #[.slice A L.length c, vi n, vi E]) ∧ Row intL 1 w' w'.heap.size A L) ∧ newer w w'
theorem best_list {p : Pm} {q : Pj} {w : World} (hq : p.pj = q) (hok : PmOk p w) (few : PmFew p) (hpc : p.ps.length ≤ p.pc) :
    Calls Try.prog 27 #[pmV p] w (bestC (bestL q) (costOf (bestR q)) (bestE q) w) := by
  subst hq
  refine (worksBest_any p w hok few hpc).mono ?_
  rintro e w' ⟨⟨v, rfl, hp⟩, hb⟩
  refine ⟨?_, hb⟩
  unfold bestL
  cases hr : bestR p.pj with
  | none =>
    rw [hr] at hp
    obtain rfl : v = .slice none 0 0 := hp
    exact ⟨none, 0, rfl, Row.nil _⟩
  | some z =>
    rw [hr] at hp
    obtain ⟨⟨A, c, rfl, _⟩, ho⟩ := hp
    exact ⟨A, c, rfl, row_of_own (enc := intL) (size := 1) (by omega) (fun _ => rfl) (by rw [← map_intL]; exact ho)⟩
theorem ready_parts {q : Pj} (h : readyP q = true) : thinP q = true ∧ faultN q = 0 := by
  unfold readyP at h
  simp only [Bool.and_eq_true, decide_eq_true_eq] at h
  exact ⟨h.1, h.2.1⟩
theorem chV_in {vs : List Bool} {bs : List Byt} {k : Nat} {x : Wd} (hx : x.first ≤ x.last) : chV vs bs k x = -1 ∨ (x.first ≤ chV vs bs k x ∧ chV vs bs k x ≤ x.last) := by
  by_cases h : chN bs k x = 0 ∨ agreeB vs x = false
  · exact .inl (by unfold chV; rw [if_pos h])
  · right
    unfold chV
    rw [if_neg h]
    have h0 : chN bs k x ≠ 0 := fun e => h (.inl e)
    have hb : 0 ≤ chN bs k x ∧ chN bs k x < x.last - x.first + 2 := by
      unfold chN
      split
      · exact ⟨Int.emod_nonneg _ (by omega), Int.emod_lt_of_pos _ (by omega)⟩
      · omega
    omega
theorem chK_is {q : Pj} {bs : List Byt} : ∀ k, k ≤ q.works.length → (chK q bs k).length = k ∧ ∀ (j : Nat) (y : Int) (x : Wd), (chK q bs k)[j]? = some y → q.works[j]? = some x → y = chV q.villages bs j x
  | 0, _ => ⟨rfl, fun j y x h => by simp [chK] at h⟩
  | k + 1, hk => by
    obtain ⟨x, hx⟩ := get_of_lt (l := q.works) (k := k) (by omega)
    have ih := chK_is (q := q) (bs := bs) k (by omega)
    rw [chK_at hx]
    refine ⟨by rw [List.length_append, ih.1]; rfl, fun j y z hj hz => ?_⟩
    rcases Nat.lt_or_ge j k with h | h
    · rw [List.getElem?_append_left (by rw [ih.1]; exact h)] at hj
      exact ih.2 j y z hj hz
    · rw [List.getElem?_append_right (by rw [ih.1]; exact h), ih.1] at hj
      by_cases he : j = k
      · subst he
        rw [Nat.sub_self] at hj
        rw [hx] at hz
        cases hz
        simpa using hj.symm
      · rw [List.getElem?_eq_none (by simp; omega)] at hj
        cases hj
theorem chP_len {q : Pj} {bs : List Byt} : (chP q bs).length = q.works.length := (chK_is q.works.length (Nat.le_refl _)).1
/-- A plan by words is one. -/
theorem chP_plan {q : Pj} {bs : List Byt} (hq : FaultOk q) : planB q.works (chP q bs) = true := by
  rw [plan_iff]
  refine ⟨chP_len, fun k y x hy hx => ?_⟩
  rw [(chK_is q.works.length (Nat.le_refl _)).2 k y x hy hx]
  exact chV_in (wdB_parts (hq.ws x (List.mem_of_getElem? hx))).2.1.2.1
theorem suffices_of {p : Pm} {q : Pj} {l : List Int} {L : Option Addr} {lp : Nat} {w : World} (hq : p.pj = q) (hok : PmOk p w) (few : PmFew p) (hl : l.length ≤ 1000) (hpc : p.ps.length ≤ p.pc) (hr : Row intL 1 w w.heap.size L l) :
    Calls Try.prog 37 #[pmV p, .slice L l.length lp] w fun e w' => e = .returned (.bool (suffB q l)) ∧ newer w w' := by
  subst hq
  exact suffices_any p l L lp w hok few hl hpc hr
theorem list_copy {l : List Int} {A : Option Addr} {c : Nat} {V : World} (hl : l.length ≤ 1000) (hr : Row intL 1 V V.heap.size A l) :
    Calls Try.prog 21 #[.slice A l.length c] V fun e w' => (∃ A' c', e = .returned (.slice A' l.length c') ∧ Row intL 1 w' w'.heap.size A' l) ∧ newer V w' := by
  refine (lawListO l A c V hl hr).mono ?_
  rintro e w' ⟨⟨A', c', rfl, ho⟩, hb⟩
  exact ⟨⟨A', c', rfl, row_of_own (enc := intL) (size := 1) (by omega) (fun _ => rfl) ho⟩, hb⟩
theorem prove_of {p : Pm} {q : Pj} {sh : List Int} {A : Option Addr} {sc : Nat} {bound : Int} {w : World} (hq : p.pj = q) (hok : PmOk p w) (few : PmFew p) (hr : Row intL 1 w w.heap.size A sh) (hl : sh.length ≤ 1000) :
    Calls Try.prog 31 #[pmV p, .slice A sh.length sc, vi bound] w fun e w' => e = .returned (.bool (boundB q sh bound)) ∧ newer w w' := by
  subst hq
  exact prove_any p sh A sc bound w hok few hr hl
/-- No plan suffices where there is no best one. -/
theorem none_suff {q : Pj} {l : List Int} (hf : faultN q = 0) (h : bestE q ≠ 0) : bestE q = 9 ∧ bestR q = none ∧ suffB q l = false := by
  rw [bestE_of hf] at h ⊢
  cases hr : bestR q with
  | some z => rw [hr] at h; exact absurd rfl h
  | none =>
    refine ⟨rfl, rfl, ?_⟩
    rw [suffB_good hf]
    cases hp : planB q.works l with
    | false => rfl
    | true => rw [(bestR_none hf).1 hr l hp]; rfl
theorem some_best {q : Pj} (hf : faultN q = 0) (h : bestE q = 0) : planB q.works (bestL q) = true ∧ suffB q (bestL q) = true ∧ costOf (bestR q) = costN q.works (bestL q) ∧ (∀ l, suffB q l = true → costOf (bestR q) ≤ costN q.works l) ∧ ∀ sh b, boundB q sh b = true → b ≤ costOf (bestR q) := by
  rw [bestE_of hf] at h
  cases hr : bestR q with
  | none => rw [hr] at h; exact absurd h (by decide)
  | some z =>
    obtain ⟨x, c⟩ := z
    obtain ⟨h1, h2, h3, h4⟩ := bestR_some hf hr
    have hL : bestL q = x := by unfold bestL; rw [hr]
    rw [hL]
    refine ⟨h1, by rw [suffB_good hf, h1, h2]; rfl, h3, fun l hl => ?_, fun sh b hb => ?_⟩
    · rw [suffB_good hf, Bool.and_eq_true] at hl
      exact h4 l hl.1 hl.2
    · show b ≤ c
      rw [h3]
      exact bound_le hf h1 h2 hb
end Go.Proofs.Ytpnpnfjhjjdmgaa
