/- Plain law: a survey without a tool. -/
import Derived.Test.YtpmafnifgegfbaaPE
namespace Go.Proofs.Ytpmafnifgegfbaa


/-- A survey without a tool. -/
def dropS (s : Sd) (k : Nat) : Sd := { s with tools := s.tools.eraseIdx k, reads := s.reads.eraseIdx k }
theorem dropS_len {s : Sd} {k : Nat} (hk : k < s.tools.length) : (dropS s k).tools.length = s.tools.length - 1 := List.length_eraseIdx_of_lt hk
theorem dropS_rlen {s : Sd} {k : Nat} (hk : k < s.reads.length) : (dropS s k).reads.length = s.reads.length - 1 := List.length_eraseIdx_of_lt hk
theorem dropS_ok {s : Sd} (h : SdOk s) {k : Nat} (hk : k < s.tools.length) : SdOk (dropS s k) := by
  have hr := h.reads
  have hf := h.few
  refine ⟨h.spots, by rw [dropS_len hk]; omega, h.strain, h.day, by rw [dropS_len hk, dropS_rlen (by omega), hr], h.spot, fun t ht => h.tool t (List.mem_of_mem_eraseIdx ht), fun r hr => h.read r (List.mem_of_mem_eraseIdx hr)⟩
theorem drop_tool (s : Sd) (k j : Nat) : (dropS s k).tools[j]? = if j < k then s.tools[j]? else s.tools[j + 1]? := List.getElem?_eraseIdx
theorem drop_read (s : Sd) (k j : Nat) : readAt (dropS s k) j = if j < k then readAt s j else readAt s (j + 1) := by
  unfold readAt dropS
  simp only [List.getD_eq_getElem?_getD, List.getElem?_eraseIdx]
  split <;> rfl
theorem drop_agree {s : Sd} (h : SdOk s) {k : Nat} (hk : k < s.tools.length) {f : Nat → Mv} : Agree (dropS s k) (freeL (dropS s k)) f ↔ FieldIn s f ∧ ∀ (j : Nat) (t : Tl), j ≠ k → s.tools[j]? = some t → agreeN t s.day (readAt s j) (f t.spot.toNat) none = true := by
  rw [agree_parts (dropS_ok h hk).toolIn]
  have e1 : FieldIn (dropS s k) f ↔ FieldIn s f := Iff.rfl
  rw [e1]
  constructor
  · rintro ⟨a, b⟩
    refine ⟨a, fun j t hj ht => ?_⟩
    by_cases hlt : j < k
    · have h1 := b j t (by rw [drop_tool, if_pos hlt]; exact ht)
      rw [drop_read, if_pos hlt, free_none] at h1
      exact h1
    · have h1 := b (j - 1) t (by rw [drop_tool, if_neg (by omega), show j - 1 + 1 = j by omega]; exact ht)
      rw [drop_read, if_neg (by omega), free_none, show j - 1 + 1 = j by omega] at h1
      exact h1
  · rintro ⟨a, b⟩
    refine ⟨a, fun j t ht => ?_⟩
    rw [drop_tool] at ht
    rw [drop_read, free_none]
    by_cases hlt : j < k
    · rw [if_pos hlt] at ht ⊢
      exact b j t (by omega) ht
    · rw [if_neg hlt] at ht ⊢
      exact b (j + 1) t (by omega) ht
/-- The tools that may be to blame, of the first ones. -/
def blameK (s : Sd) (i : Nat) : List Int := ((List.range i).filter fun k => okS (dropS s k) (freeL (dropS s k))).map fun k : Nat => (k : Int)
theorem blameK_succ (s : Sd) (i : Nat) : blameK s (i + 1) = blameK s i ++ if okS (dropS s i) (freeL (dropS s i)) = true then [(i : Int)] else [] := by
  unfold blameK
  rw [List.range_succ, List.filter_append, List.map_append]
  cases ho : okS (dropS s i) (freeL (dropS s i)) <;> simp [ho]
theorem blameK_len (s : Sd) (i : Nat) : (blameK s i).length ≤ i := by
  unfold blameK
  rw [List.length_map]
  refine Nat.le_trans (List.length_filter_le _ _) ?_
  rw [List.length_range]
  exact Nat.le_refl _
theorem mem_blame {s : Sd} {i : Nat} {a : Int} : a ∈ blameK s i ↔ ∃ k : Nat, k < i ∧ a = k ∧ okS (dropS s k) (freeL (dropS s k)) = true := by
  unfold blameK
  rw [List.mem_map]
  constructor
  · rintro ⟨k, hk, rfl⟩
    rw [List.mem_filter, List.mem_range] at hk
    exact ⟨k, hk.1, rfl, hk.2⟩
  · rintro ⟨k, hk, rfl, ho⟩
    exact ⟨k, by rw [List.mem_filter, List.mem_range]; exact ⟨hk, ho⟩, rfl⟩
/-- The error of Blame, and the tools. -/
def blameE (s : Sd) : Int := if errN s = 0 then (if okS s (freeL s) = true then 7 else if blameK s s.tools.length = [] then 9 else 0) else errN s
def blameL (s : Sd) : List Int := if blameE s = 0 then blameK s s.tools.length else []
/-- A tool that fails may be to blame. -/
theorem failed_law {s : Sd} (h : SdOk s) {f : List Mv} (hf : FieldIn s (fnL f)) {rd : List Int} {ks : List (Option Int)} (hrl : rd.length = s.tools.length) (hk : ks.length = s.tools.length) (hm : ∀ (j : Nat) (t : Tl) (r : Int), s.tools[j]? = some t → rd[j]? = some r → Made s f ks j t r) {k : Nat} (hkl : k < s.tools.length) {r : Int} (hr : -1000 ≤ r ∧ r ≤ 1000) :
    SdOk { s with reads := rd.set k r } ∧ (k : Int) ∈ blameK { s with reads := rd.set k r } s.tools.length := by
  obtain ⟨hz, ha, _, _⟩ := truth_law h hf hrl hk hm
  obtain ⟨x, hx⟩ : ∃ x : Sd, x = { s with reads := rd.set k r } := ⟨_, rfl⟩
  have x1 : x.spots = s.spots := by rw [hx]
  have x2 : x.tools = s.tools := by rw [hx]
  have x3 : x.day = s.day := by rw [hx]
  have x4 : x.strain = s.strain := by rw [hx]
  have x5 : x.reads = rd.set k r := by rw [hx]
  have hok : SdOk x := by
    refine ⟨by rw [x1]; exact h.spots, by rw [x2]; exact h.few, by rw [x4]; exact h.strain, by rw [x3]; exact h.day, by rw [x5, x2, List.length_set]; exact hrl, by rw [x1]; exact h.spot, by rw [x1, x2, x3]; exact h.tool, fun q hq => ?_⟩
    rw [x5] at hq
    rcases List.mem_or_eq_of_mem_set hq with h1 | h1
    · exact hz.read q h1
    · rw [h1]; exact hr
  rw [← hx]
  refine ⟨hok, mem_blame.2 ⟨k, hkl, rfl, ?_⟩⟩
  refine (ok_iff (by show 0 < x.spots.length; rw [x1]; have := h.spots; omega)).2 ⟨fnL f, (drop_agree hok (by rw [x2]; exact hkl)).2 ⟨?_, fun j t hj ht => ?_⟩⟩
  · unfold FieldIn
    rw [x1, x4]
    exact hf
  · rw [x2] at ht
    have h1 := ((agree_parts hz.toolIn).1 ha).2 j t ht
    rw [free_none] at h1
    rw [x3]
    have e : readAt x j = readAt { s with reads := rd } j := by
      unfold readAt
      rw [x5]
      simp only [List.getD_eq_getElem?_getD, List.getElem?_set]
      rw [if_neg (Ne.symm hj)]
    rw [e]
    exact h1

end Go.Proofs.Ytpmafnifgegfbaa
