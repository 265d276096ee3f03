/- Plain law: reads that a field made. -/
import Derived.Test.YtpmafnifgegfbaaPA
namespace Go.Proofs.Ytpmafnifgegfbaa


/-- A read that a tool made of a field: off by no more than it may be, and by whole turns. -/
def Made (s : Sd) (f : List Mv) (ks : List (Option Int)) (j : Nat) (t : Tl) (r : Int) : Prop :=
  (-1000 ≤ r ∧ r ≤ 1000) ∧ ∃ off : Int, (-offN t s.day ≤ off ∧ off ≤ offN t s.day) ∧ ((t.turn = 0 ∧ ks.getD j none = none ∧ r = sightN t (fnL f t.spot.toNat) + off) ∨ (t.turn ≠ 0 ∧ ∃ q, ks.getD j none = some q ∧ r = sightN t (fnL f t.spot.toNat) + off - q * t.turn))
theorem truth_law {s : Sd} (h : SdOk s) {f : List Mv} (hf : FieldIn s (fnL f)) {rd : List Int} {ks : List (Option Int)} (hrl : rd.length = s.tools.length) (hk : ks.length = s.tools.length) (hm : ∀ (j : Nat) (t : Tl) (r : Int), s.tools[j]? = some t → rd[j]? = some r → Made s f ks j t r) :
    SdOk { s with reads := rd } ∧ Agree { s with reads := rd } (freeL s) (fnL f) ∧ Agree { s with reads := rd } ks (fnL f) ∧ turL s.tools ks ∈ turnsN { s with reads := rd } := by
  obtain ⟨z, hz⟩ : ∃ z : Sd, z = { s with reads := rd } := ⟨_, rfl⟩
  have z1 : z.spots = s.spots := by rw [hz]
  have z2 : z.tools = s.tools := by rw [hz]
  have z3 : z.day = s.day := by rw [hz]
  have z4 : z.strain = s.strain := by rw [hz]
  have z5 : z.reads = rd := by rw [hz]
  rw [← hz]
  have hrd : ∀ (j : Nat) (r : Int), rd[j]? = some r → readAt z j = r := fun j r hr => by
    unfold readAt
    rw [z5, List.getD_eq_getElem?_getD, hr]
    rfl
  have hok : SdOk z := by
    refine ⟨by rw [z1]; exact h.spots, by rw [z2]; exact h.few, by rw [z4]; exact h.strain, by rw [z3]; exact h.day, by rw [z5, z2]; exact hrl, by rw [z1]; exact h.spot, by rw [z1, z2, z3]; exact h.tool, fun r hr => ?_⟩
    rw [z5] at hr
    obtain ⟨j, hj⟩ := List.mem_iff_getElem?.1 hr
    have hjl := (List.getElem?_eq_some_iff.1 hj).1
    obtain ⟨t, ht⟩ : ∃ t, s.tools[j]? = some t := ⟨_, List.getElem?_eq_getElem (by omega)⟩
    exact (hm j t r ht hj).1
  have hfi : FieldIn z (fnL f) := by
    unfold FieldIn
    rw [z1, z4]
    exact hf
  have hag : ∀ (o : Bool), ToolsOk z (if o then ks else freeL s) (fnL f) := fun o j t ht => by
    rw [z2] at ht
    have hjl := (List.getElem?_eq_some_iff.1 ht).1
    obtain ⟨r, hr⟩ : ∃ r, rd[j]? = some r := ⟨_, List.getElem?_eq_getElem (by omega)⟩
    obtain ⟨_, off, ho, hc⟩ := hm j t r ht hr
    rw [hrd j r hr, z3]
    have hfr := free_none s j
    rcases hc with ⟨hT, h1, h2⟩ | ⟨hT, q, h1, h2⟩
    · rw [h2]
      exact agree_made0 ho hT
    · have hT0 : 0 < t.turn := by have := (h.tool t (List.mem_of_getElem? ht)).turn; omega
      have h3 := agree_made (t := t) (day := s.day) (off := off) (k := q) (m := fnL f t.spot.toNat) ho hT0
      rw [h2]
      cases o with
      | true => show agreeN t s.day _ _ (ks.getD j none) = true; rw [h1]; exact h3.1
      | false => show agreeN t s.day _ _ ((freeL s).getD j none) = true; rw [hfr]; exact h3.2
  have a1 : Agree z (freeL s) (fnL f) := (agree_parts hok.toolIn).2 ⟨hfi, hag false⟩
  have a2 : Agree z ks (fnL f) := (agree_parts hok.toolIn).2 ⟨hfi, hag true⟩
  refine ⟨hok, a1, a2, (mem_turnsN hok).2 ⟨ks, fnL f, by rw [z2]; exact hk, fun j t ht hT => ?_, fun j t ht hT => ?_, a2, by rw [z2]⟩⟩
  · rw [z2] at ht
    have hjl := (List.getElem?_eq_some_iff.1 ht).1
    obtain ⟨r, hr⟩ : ∃ r, rd[j]? = some r := ⟨_, List.getElem?_eq_getElem (by omega)⟩
    obtain ⟨_, off, ho, hc⟩ := hm j t r ht hr
    rcases hc with ⟨_, h1, _⟩ | ⟨hT2, _⟩
    · exact h1
    · exact absurd hT hT2
  · rw [z2] at ht
    have hjl := (List.getElem?_eq_some_iff.1 ht).1
    obtain ⟨r, hr⟩ : ∃ r, rd[j]? = some r := ⟨_, List.getElem?_eq_getElem (by omega)⟩
    obtain ⟨_, off, ho, hc⟩ := hm j t r ht hr
    rcases hc with ⟨hT2, _⟩ | ⟨_, q, h1, _⟩
    · exact absurd hT2 hT
    · exact ⟨q, h1⟩

end Go.Proofs.Ytpmafnifgegfbaa
