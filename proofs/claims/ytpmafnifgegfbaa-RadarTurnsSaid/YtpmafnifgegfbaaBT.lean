/- How many lists there may be. -/
import Derived.Test.YtpmafnifgegfbaaBS
namespace Go.Proofs.Ytpmafnifgegfbaa
open Go.RowKit Go.Shelf Go.Deep

theorem nodup_le : ∀ (l m : List (List Int)), l.Nodup → (∀ x ∈ l, x ∈ m) → l.length ≤ m.length
  | [], _, _, _ => Nat.zero_le _
  | a :: l, m, hn, h => by
    obtain ⟨h1, h2⟩ := List.nodup_cons.1 hn
    have hm := h a (List.mem_cons_self ..)
    have h3 := nodup_le l (m.erase a) h2 (fun x hx => (List.mem_erase_of_ne (fun e => h1 (by rw [← e]; exact hx))).2 (h x (List.mem_cons_of_mem _ hx)))
    rw [List.length_erase_of_mem hm] at h3
    have h4 := List.length_pos_of_mem hm
    rw [List.length_cons]
    omega
/-- All lists of so many numbers that may be turns. -/
def kLists : Nat → List (List Int)
  | 0 => [[]]
  | r + 1 => kAll.flatMap fun k => (kLists r).map fun l => k :: l
theorem kLists_len : ∀ r, (kLists r).length ≤ 3001 ^ r
  | 0 => by simp [kLists]
  | r + 1 => by
    rw [kLists, Nat.pow_succ, Nat.mul_comm]
    refine Nat.le_trans (flat_le (c := 3001 ^ r) _ fun k _ => by rw [List.length_map]; exact kLists_len r) (Nat.mul_le_mul_right _ (by unfold kAll; rw [List.length_map, List.length_range]; exact Nat.le_refl _))
theorem mem_kLists : ∀ {l : List Int}, (∀ k ∈ l, k ∈ kAll) → l ∈ kLists l.length
  | [], _ => by simp [kLists]
  | k :: l, h => by
    rw [List.length_cons, kLists, List.mem_flatMap]
    exact ⟨k, h k (List.mem_cons_self ..), List.mem_map.2 ⟨l, mem_kLists (fun q hq => h q (List.mem_cons_of_mem _ hq)), rfl⟩⟩
/-- What stands of the lists put so far. -/
structure PutsOk (n : Nat) (l : List (List Int)) : Prop where
  len : ∀ a ∈ l, a.length = n
  all : ∀ a ∈ l, ∀ k ∈ a, k ∈ kAll
  srt : l.Pairwise lessL
theorem PutsOk.few {n : Nat} {l : List (List Int)} (h : PutsOk n l) (hn : n ≤ 3) : l.length ≤ 27027009001 := by
  have h1 := nodup_le l (kLists n) (List.nodup_iff_pairwise_ne.2 (h.srt.imp fun {a b} hab e => by rw [e] at hab; exact less_irrefl _ hab)) (fun x hx => by
    have h2 := mem_kLists (h.all x hx)
    rw [h.len x hx] at h2
    exact h2)
  exact Nat.le_trans h1 (Nat.le_trans (kLists_len n) (Nat.le_trans (Nat.pow_le_pow_right (by decide) hn) (by decide)))
theorem PutsOk.put {n : Nat} {l : List (List Int)} {x : List Int} (h : PutsOk n l) (hx : x.length = n) (hk : ∀ k ∈ x, k ∈ kAll) : PutsOk n (putL l x) := by
  have hm := put_mem h.len hx
  refine ⟨fun a ha => ?_, fun a ha => ?_, put_sorted h.len hx h.srt⟩
  · rcases (hm a).1 ha with rfl | ha
    · exact hx
    · exact h.len a ha
  · rcases (hm a).1 ha with rfl | ha
    · exact hk
    · exact h.all a ha
theorem lists_kAll {s : Sd} {f : List Mv} : ∀ (r tool : Nat) (b : List Int), (∀ k ∈ b, k ∈ kAll) → ∀ y ∈ listsR s f r tool b, ∀ k ∈ y, k ∈ kAll
  | 0, _, b, hb, y, hy => by
    rw [listsR] at hy
    obtain rfl := List.mem_singleton.1 hy
    exact hb
  | r + 1, tool, b, hb, y, hy => by
    rw [listsR] at hy
    split at hy
    · split at hy
      · exact lists_kAll r _ b hb y hy
      · rename_i t _ hT
        obtain ⟨k, hk, hy⟩ := List.mem_flatMap.1 hy
        unfold waysN at hk
        rw [if_neg hT] at hk
        refine lists_kAll r _ (b ++ [k]) (fun q hq => ?_) y hy
        rcases List.mem_append.1 hq with hq | hq
        · exact hb q hq
        · obtain rfl := List.mem_singleton.1 hq
          exact (List.mem_filter.1 hk).1
    · cases hy

end Go.Proofs.Ytpmafnifgegfbaa
