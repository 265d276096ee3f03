/- The worst of a stake: what the program computes is what the reference has. -/
import Derived.Test.YtpmafnifgegfbaaCB0
import Derived.Test.YtpmafnifgegfbaaCC
namespace Go.Proofs.Ytpmafnifgegfbaa
open Go.RowKit Go.Shelf Go.Deep

theorem sees_in {s : Sd} {t : Tl} {r : Int} {f : List Mv} : seesB s t r f = true ↔ inW s t (fnL f t.spot.toNat) r := by
  unfold seesB inW
  rw [decide_eq_true_eq, amt_le]
  omega
theorem stake_in {s : Sd} {t : Tl} {r : Int} {ks : List (Option Int)} : stakeB s t r ks = true ↔ ∃ m ∈ aliveS s ks t.spot.toNat, inW s t m r := by
  unfold stakeB
  rw [List.any_eq_true]
  exact ⟨fun ⟨m, a, b⟩ => ⟨m, a, of_decide_eq_true b⟩, fun ⟨m, a, b⟩ => ⟨m, a, decide_eq_true b⟩⟩
/-- What is left by a read. -/
theorem leftS_is {s : Sd} (h : SdOk s) {t : Tl} (ht : TlOk s.spots.length s.day t) (r : Int) : turnsR s ((allR s).filter (seesB s t r)) = ((allT s).filter (stakeB s t r)).map (turL s.tools) := by
  have hsp : t.spot.toNat < s.spots.length := by have := ht.spot; omega
  refine pair_ext less_irrefl less_trans (turns_sorted s _) ((turnsN_sorted h).sublist (List.Sublist.map _ List.filter_sublist)) fun y => ?_
  rw [mem_turns, List.mem_map]
  constructor
  · rintro ⟨f, hf, hy⟩
    obtain ⟨hf, hs⟩ := List.mem_filter.1 hf
    obtain ⟨ks, h1, h2, h3⟩ := (mem_lists _ _ _ (by omega)).1 hy
    obtain ⟨h4, h5⟩ := (lists_agree h hf).1 h3
    refine ⟨ks, List.mem_filter.2 ⟨(mem_out0 h).2 ⟨h1, h5, (ok_iff (by have := h.spots; omega)).2 ⟨_, h4⟩⟩, stake_in.2 ⟨_, (mem_alive hsp).2 ⟨_, h4, rfl⟩, sees_in.1 hs⟩⟩, ?_⟩
    rw [h2, List.nil_append, List.drop_zero]
  · rintro ⟨ks, hk, rfl⟩
    obtain ⟨hk, hst⟩ := List.mem_filter.1 hk
    obtain ⟨h1, h2, h3⟩ := (mem_out0 h).1 hk
    obtain ⟨m, hm, hin⟩ := stake_in.1 hst
    obtain ⟨g, hg, rfl⟩ := (mem_alive hsp).1 hm
    obtain ⟨l, hl, he⟩ := listOf h (agree_less h.toolIn hg fun j t _ => .inr (free_none s j))
    have hg2 : Agree s ks (fnL l) := ⟨fun i hi => by rw [he i hi]; exact hg.mem i hi, fun i hi => by rw [he i (by omega), he (i + 1) hi]; exact hg.rel i hi⟩
    refine ⟨l, List.mem_filter.2 ⟨hl, sees_in.2 (by rw [he _ hsp]; exact hin)⟩, (mem_lists _ _ _ (by omega)).2 ⟨ks, h1, by rw [List.nil_append, List.drop_zero], (lists_agree h hl).2 ⟨hg2, h2⟩⟩⟩
theorem left_cnt {s : Sd} (h : SdOk s) {t : Tl} (ht : TlOk s.spots.length s.day t) (r : Int) : leftC s (allR s) t r = cntP s t (allT s) r := by
  unfold leftC cntP
  rw [leftS_is h ht, List.length_map]
theorem left_none {s : Sd} {all : List (List Mv)} {t : Tl} {r : Int} (h : all.any (seesB s t r) = false) : leftC s all t r = 0 := by
  have e : all.filter (seesB s t r) = [] := List.filter_eq_nil_iff.2 fun f hf hs => by
    rw [List.any_eq_false] at h
    exact h f hf hs
  unfold leftC
  rw [e]
  rfl
theorem sees_bd {s : Sd} (h : SdOk s) {t : Tl} (ht : TlOk s.spots.length s.day t) {r : Int} {f : List Mv} (hf : f ∈ allR s) (hs : seesB s t r f = true) : -410 ≤ r ∧ r ≤ 410 := by
  have h1 := sees_in.1 hs
  unfold inW at h1
  have hb := (isField_iff.1 (Bool.and_eq_true _ _ ▸ mem_all.1 hf : isFieldB s f = true ∧ waysB s f = true).1).2.bd h (i := t.spot.toNat) (by have := ht.spot; omega)
  have h2 := sight_bd ht hb.1 hb.2
  have h3 := off_bd ht h.day.1 h.day.2
  omega
theorem worst_inv (s : Sd) (all : List (List Mv)) (t : Tl) : ∀ k : Nat, (∀ r : Int, -420 ≤ r → r < (k : Int) - 420 → leftC s all t r ≤ worstK s all t k) ∧ (worstK s all t k = 0 ∨ ∃ r, leftC s all t r = worstK s all t k)
  | 0 => ⟨fun r h1 h2 => by omega, .inl rfl⟩
  | k + 1 => by
    obtain ⟨h1, h2⟩ := worst_inv s all t k
    rw [worstK_succ]
    obtain ⟨r0, hr0⟩ : ∃ q : Int, q = (k : Int) - 420 := ⟨_, rfl⟩
    rw [← hr0] at h1 ⊢
    cases ha : all.any (seesB s t r0) with
    | false =>
      rw [if_neg (by decide)]
      refine ⟨fun r ha1 ha2 => ?_, h2⟩
      by_cases e : r = r0
      · rw [e, left_none ha]
        rcases h2 with h2 | ⟨q, h2⟩
        · omega
        · rw [← h2]; unfold leftC; omega
      · exact h1 r ha1 (by omega)
    | true =>
      rw [if_pos rfl]
      by_cases hlt : worstK s all t k < leftC s all t r0
      · rw [if_pos hlt]
        refine ⟨fun r ha1 ha2 => ?_, .inr ⟨r0, rfl⟩⟩
        by_cases e : r = r0
        · rw [e]; exact Int.le_refl _
        · have := h1 r ha1 (by omega); omega
      · rw [if_neg hlt]
        refine ⟨fun r ha1 ha2 => ?_, h2⟩
        by_cases e : r = r0
        · rw [e]; omega
        · exact h1 r ha1 (by omega)
/-- The worst of a stake. -/
def worstS (s : Sd) (t : Tl) : Int := worstK s (allR s) t 841
theorem worst_top {s : Sd} (h : SdOk s) {t : Tl} (ht : TlOk s.spots.length s.day t) : Top (worstS s t) (cntP s t (allT s)) := by
  obtain ⟨h1, h2⟩ := worst_inv s (allR s) t 841
  refine ⟨fun r => ?_, ?_⟩
  · rw [← left_cnt h ht]
    cases ha : (allR s).any (seesB s t r) with
    | false =>
      rw [left_none ha]
      show (0 : Int) ≤ worstK s (allR s) t 841
      rcases h2 with h2 | ⟨q, h2⟩
      · omega
      · rw [← h2]; unfold leftC; omega
    | true =>
      obtain ⟨f, hf, hs⟩ := List.any_eq_true.1 ha
      have hb := sees_bd h ht hf hs
      exact h1 r (by omega) (by omega)
  · rcases h2 with h2 | ⟨q, h2⟩
    · exact .inl h2
    · exact .inr ⟨q, by rw [← left_cnt h ht]; exact h2⟩
theorem cnt_nat (s : Sd) (t : Tl) (Ks : List (List (Option Int))) : ∀ r, 0 ≤ cntP s t Ks r := fun r => (cnt_bd s t Ks r).1
/-- The program's worst of a stake is the reference's. -/
theorem worst_any (y : Sm) (t : Tl) (ls : List Nat) (A : Option Addr) (c : Nat) (w : World) (hs : SdOk y.s) (ht : TlOk y.s.spots.length y.s.day t) (hl : Row ptL 1 w w.heap.size A ls) (hln : ls.length = (allT y.s).length) (h60 : ls.length ≤ 60)
    (hlk : ∀ (i : Nat) (k : List (Option Int)) (l : Nat), (allT y.s)[i]? = some k → ls[i]? = some l → ∃ B ms A c, LookOk y k B l ms A c w) :
    Calls Try.prog 84 #[smV y, tlV t, .slice A ls.length c] w fun e w' => e = .returned (vi (worstS y.s t)) ∧ newer w w' := by
  refine (worstP_any y t (allT y.s) ls A c w hs ht hl hln h60 hlk).mono ?_
  rintro e w' ⟨W, rfl, h1, h2⟩
  exact ⟨by rw [h1.uniq (worst_top hs ht) (cnt_nat _ _ _)], h2⟩
theorem worst_bd {s : Sd} (h : SdOk s) {t : Tl} (ht : TlOk s.spots.length s.day t) : 0 ≤ worstS s t ∧ worstS s t ≤ (allT s).length := by
  have hT := worst_top h ht
  refine ⟨hT.nat (cnt_nat _ _ _), ?_⟩
  rcases hT.2 with e | ⟨r, e⟩
  · omega
  · rw [← e]; exact (cnt_bd _ _ _ _).2

end Go.Proofs.Ytpmafnifgegfbaa
