/- Is a number in a list? What surely moves, and what may: plain. -/
import Derived.Test.YtkenokpobbichaaBL
namespace Go.Proofs.Ytkenokpobbichaa
open Go.RowKit Go.Shelf Go.Deep

theorem row_int1 {w : World} {B : Nat} {A : Option Addr} {l : List Int} (h : Row intL 1 w B A l) {k : Nat} {x : Int} (hk : l[k]? = some x) : ∃ b off, A = some ⟨b, off, none⟩ ∧ b < B ∧ w.cell? ⟨b, off + k, none⟩ = some (vi x) := by
  obtain ⟨b, off, e, hb, hc⟩ := h (ne_nil_of_get hk)
  exact ⟨b, off, e, hb, by simpa using hc k x hk 0 _ rfl⟩
set_option maxRecDepth 100000 in
set_option maxHeartbeats 1000000 in
theorem hasL_any (l : List Int) (A : Option Addr) (c : Nat) (n : Int) (w : World) (hl : l.length ≤ 1000) (hr : Row intL 1 w w.heap.size A l) : Calls Try.prog 41 #[.slice A l.length c, vi n] w fun e w' => e = .returned (.bool (decide (n ∈ l))) ∧ newer w w' := by
  have HR := Lib.hid hr
  obtain ⟨R, hR⟩ : ∃ R, R = decide (n ∈ l) := ⟨_, rfl⟩
  rw [← hR]
  have HRR := Lib.hid hR
  clear hr hR
  go_enter Try.func41, Try.ntmps41
  go_wp2_with fail
  go_loopw [5] (fun s5 wr => ∃ k : Nat, s5 = vi k ∧ k ≤ l.length ∧ (∀ i x, i < k → l[i]? = some x → x ≠ n) ∧ newer w wr) (fun s5 _ => l.length - (intOf s5).toNat)
  case atStart => exact ⟨0, rfl, Nat.zero_le _, fun i x h => absurd h (by omega), newer_refl _⟩
  case round =>
    obtain ⟨k, rfl, hk, hq, hn⟩ := hrel
    have HQ := Lib.hid hq
    clear hq
    by_cases hlt : k < l.length
    · obtain ⟨x, hx⟩ := get_of_lt hlt
      obtain ⟨b, off, rfl, _, c0⟩ := row_int1 (HR.out.below hn) hx
      have hki : (k : Int) < l.length := by omega
      have HX := Lib.hid hx
      clear hx
      by_cases he : x = n
      · subst he
        have HT : Hid (R = true) := Lib.hid (by rw [HRR.out]; exact decide_eq_true (List.mem_of_getElem? HX.out))
        have hq0 : (x == x) = true := by simp
        go_wp2_with fail
        go_ret
        exact ⟨by rw [HT.out] <;> rfl, hn⟩
      · have hq0 : (x == n) = false := by simpa using he
        have HE := Lib.hid he
        clear he
        go_wp2_with fail
        refine ⟨⟨k + 1, rfl, by omega, fun i y hi hy => ?_, hn⟩, ?_⟩
        · by_cases h : i = k
          · rw [h, HX.out] at hy
            injection hy with hy
            rw [← hy]
            exact HE.out
          · exact HQ.out i y (by omega) hy
        · simp [intOf]
          omega
    · obtain rfl : k = l.length := by omega
      have HT : Hid (R = false) := Lib.hid (by
        rw [HRR.out]
        refine decide_eq_false fun h => ?_
        obtain ⟨i, hi⟩ := List.mem_iff_getElem?.1 h
        exact HQ.out i n (List.getElem?_eq_some_iff.1 hi).1 hi rfl)
      go_wp2_with fail
      go_ret
      exact ⟨by rw [HT.out] <;> rfl, hn⟩
theorem hAt_le {s : Sd} (hs : SdOk s) (k b : Nat) : hAt false s k b ≤ hAt true s k b := by
  unfold hAt
  cases hx : bedAt s.cols k b with
  | none => exact Int.le_refl _
  | some x =>
    obtain ⟨l, hl, _, _, hb⟩ := bedAt_mem hx
    have hbd := hs.bd l hl x hb
    exact (fit_mono hbd (fit_end hbd true)).1
theorem moves_mem {s : Sd} (hs : SdOk s) {f : Int} (f0 : 0 ≤ f) (f1 : f ≤ 10000) (sure : Bool) {x : Nat} : x ∈ movesL s f (some sure) ↔ ∃ k l, SurfB s.n s.cols.length s.K k l ∧ 1 ≤ sumH (dAt s) k l ∧ 1000 * sumH (hAt sure s) k l / sumH (dAt s) k l < f ∧ k ≤ x ∧ x < k + l.length := by
  have ok := hd_ok hs sure
  have hiff := moveB_iff (B := 1300100000) (x := x) (fun k b _ => cF_bd ok f0 (by omega) k b) (by decide) ok.n0 ok.K0 (few_big ok)
  unfold movesL
  rw [List.mem_filter, List.mem_range, show (hT (some sure) s) = hAt sure s from rfl, hiff]
  constructor
  · rintro ⟨_, k, l, h1, h2, h3, h4⟩
    have e1 : costP (cF (hAt sure s) (dAt s) f) k l = 1000 * sumH (hAt sure s) k l - f * sumH (dAt s) k l := cost_sums l k
    rw [e1, neg_iff (sumH_nonneg ok.h0 l k) f0] at h2
    exact ⟨k, l, h1, h2.1, h2.2, h3, h4⟩
  · rintro ⟨k, l, h1, h2, h3, h4, h5⟩
    have e1 : costP (cF (hAt sure s) (dAt s) f) k l = 1000 * sumH (hAt sure s) k l - f * sumH (dAt s) k l := cost_sums l k
    exact ⟨by have := h1.2.1; omega, k, l, h1, by rw [e1, neg_iff (sumH_nonneg ok.h0 l k) f0]; exact ⟨h2, h3⟩, h4, h5⟩
theorem moves_sure {s : Sd} (hs : SdOk s) {f : Int} (f0 : 0 ≤ f) (f1 : f ≤ 10000) {x : Nat} (h : x ∈ movesL s f (some true)) : x ∈ movesL s f (some false) := by
  rw [moves_mem hs f0 f1] at h ⊢
  obtain ⟨k, l, h1, h2, h3, h4, h5⟩ := h
  refine ⟨k, l, h1, h2, ?_, h4, h5⟩
  have h6 := sumH_le (hAt_le hs) l k
  have h7 := Int.ediv_le_ediv (show 0 < sumH (dAt s) k l by omega) (show 1000 * sumH (hAt false s) k l ≤ 1000 * sumH (hAt true s) k l by omega)
  omega
theorem moves_none {s : Sd} (hs : SdOk s) {f : Int} (f0 : 0 ≤ f) (f1 : f ≤ 10000) : movesL s f (some false) = [] ↔ ¬ (wE s = 0 ∧ wV s < f) := by
  rw [← worst_low0 hs f0 f1]
  have ok := hd_ok hs false
  have h9 := lowF_iff ok f0 (show f ≤ 10001 by omega)
  constructor
  · intro h h2
    obtain ⟨k, l, h3, h4, h5⟩ := h9.1 h2
    have hl : 0 < l.length := by have := h3.1; have := ok.K0; omega
    have h6 := (moves_mem hs f0 f1 false (x := k)).2 ⟨k, l, h3, h4, h5, Nat.le_refl _, by omega⟩
    rw [h] at h6
    cases h6
  · intro h
    refine List.eq_nil_iff_forall_not_mem.2 fun x hx => ?_
    obtain ⟨k, l, h3, h4, h5, _, _⟩ := (moves_mem hs f0 f1 false).1 hx
    exact h (h9.2 ⟨k, l, h3, h4, h5⟩)
theorem moves_sorted (s : Sd) (f : Int) (t : Option Bool) : (movesL s f t).Pairwise (· < ·) := (List.pairwise_lt_range).filter _
theorem moves_span {s : Sm} (hs : SdOk s.sd) {frm : Int} {l : List Int} {k0 : Nat} {m : List Nat} (hf : frm = (k0 : Nat)) (hl : l = m.map fun x : Nat => (x : Int)) (hsf : SurfB s.sd.n s.cs.length s.sd.K k0 m) {f : Int} (f0 : 0 ≤ f) (f1 : f ≤ 10000) (sure : Bool) (he : spanE s.sd frm l = 0) (hlt : spanP s.sd frm l sure < f) {i : Nat} (hi : i < m.length) : k0 + i ∈ movesL s.sd f (some sure) := by
  have hsf' : SurfB s.sd.n s.sd.cols.length s.sd.K k0 m := by rw [sd_len]; exact hsf
  obtain ⟨eb, _⟩ := surf_known hs hf hl hsf
  have hbl := bedsL_len s.sd.cols m k0
  unfold spanP at hlt
  rw [if_pos he, eb] at hlt
  unfold facE at hlt
  rw [hbl, hK_sum, dK_sum] at hlt
  have hck : checkUN s.sd frm l = 0 := by
    unfold checkUN
    rw [sdOk_iff.2 hs, hf, hl, (surfB_nat hs).2 hsf']
    rfl
  have hd : ¬ dK (bedsL s.sd.cols k0 m) (bedsL s.sd.cols k0 m).length < 1 := by
    intro h
    unfold spanE at he
    rw [hck, if_pos rfl, eb, if_pos h] at he
    cases he
  rw [hbl, dK_sum] at hd
  rw [factor_lt f1] at hlt
  exact (moves_mem hs f0 f1 sure).2 ⟨k0, m, hsf', by omega, hlt, by omega, by omega⟩

end Go.Proofs.Ytkenokpobbichaa
