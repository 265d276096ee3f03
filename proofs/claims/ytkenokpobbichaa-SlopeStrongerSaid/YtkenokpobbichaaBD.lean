/- May a statement play a slope? The numbers that Worst returns; with more water they are not greater. -/
import Derived.Test.YtkenokpobbichaaAI
namespace Go.Proofs.Ytkenokpobbichaa
open Go.RowKit Go.Shelf Go.Deep

/-- May a statement play a slope? -/
def readyB (s : Sd) : Bool := thinS s && slopeB s && decide (s.least ≤ (s.cols.length : Int))
theorem ready_ok {s : Sm} (h : readyB s.sd = true) : SdOk s.sd ∧ SmFew s ∧ s.sd.least ≤ (s.sd.cols.length : Int) := by
  unfold readyB at h
  rw [Bool.and_eq_true, Bool.and_eq_true, decide_eq_true_eq] at h
  exact ⟨sdOk_iff.1 h.1.2, (thinS_few h.1.1).1, h.2⟩
set_option maxRecDepth 100000 in
set_option maxHeartbeats 1000000 in
theorem ready_any (s : Sm) (w : World) (hok : SmOk s w) : Calls Try.prog 38 #[smV s] w fun e w' => e = .returned (.bool (readyB s.sd)) ∧ newer w w' := by
  have hnw := newer_allocH w (.cells (smC s) 24)
  have hxb := Whole.made w 24 (smC s)
  have H1 := Lib.hid (And.intro (hnw) (hxb))
  clear hnw hxb
  have HOK := Lib.hid hok
  have HTH : Hid (∀ W, newer w W → Calls Try.prog 16 #[smV s] W fun e w' => e = .returned (.bool (thinS s.sd)) ∧ newer W w') := Lib.hid (fun W hW => lawThin s W (HOK.out.next hW))
  unfold readyB
  clear hok
  have x0 := H1.out.2.at 0 (v := .slice s.a s.cs.length s.c) rfl
  have x1 := H1.out.2.at 1 (v := vi s.least) rfl
  cases ht : thinS s.sd with
  | false =>
    rw [ht] at HTH
    clear ht
    go_enter Try.func38, Try.ntmps38
    go_wp2_with fail
    refine (HTH.out _ H1.out.1).mono ?_
    rintro e w2 ⟨rfl, hb⟩
    have H3 := Lib.hid (And.intro ((newer_trans H1.out.1 hb)) ((H1.out.2.below hb H1.out.2.lt)))
    clear hb HTH H1 x0 x1
    go_wp2_with fail
    go_ret
    exact ⟨rfl, H3.out.1⟩
  | true =>
    obtain ⟨few, hc15, hb8⟩ := thinS_few ht
    have HRI : Hid (∀ W, newer w W → Calls Try.prog 26 #[smV s] W fun e w' => e = .returned (.bool (slopeB s.sd)) ∧ newer W w') := Lib.hid (fun W hW => right_any s W (HOK.out.next hW) few)
    rw [ht] at HTH
    cases hr : slopeB s.sd with
    | false =>
      rw [hr] at HRI
      clear ht hr few hc15 hb8 HOK
      go_enter Try.func38, Try.ntmps38
      go_wp2_with fail
      refine (HTH.out _ H1.out.1).mono ?_
      rintro e w4 ⟨rfl, hb⟩
      have H5 := Lib.hid (And.intro ((newer_trans H1.out.1 hb)) ((H1.out.2.below hb H1.out.2.lt)))
      clear hb HTH H1 x0 x1
      have x0 := H5.out.2.at 0 (v := .slice s.a s.cs.length s.c) rfl
      have x1 := H5.out.2.at 1 (v := vi s.least) rfl
      go_wp2_with fail
      refine (HRI.out _ H5.out.1).mono ?_
      rintro e w6 ⟨rfl, hb⟩
      have H7 := Lib.hid (And.intro ((newer_trans H5.out.1 hb)) ((H5.out.2.below hb H5.out.2.lt)))
      clear hb HRI H5 x0 x1
      have x0 := H7.out.2.at 0 (v := .slice s.a s.cs.length s.c) rfl
      have x1 := H7.out.2.at 1 (v := vi s.least) rfl
      go_wp2_with fail
      go_ret
      exact ⟨rfl, H7.out.1⟩
    | true =>
      rw [hr] at HRI
      clear ht few hc15 hb8 HOK
      have hle : s.sd.least = s.least := rfl
      rw [hle, sd_len]
      obtain ⟨r, hr2⟩ : ∃ r, r = (true && true && decide (s.least ≤ (s.cs.length : Int))) := ⟨_, rfl⟩
      rw [← hr2]
      have HV := Lib.hid (show r = decide (s.least ≤ (s.cs.length : Int)) from hr2)
      clear hr2 hr hle
      go_enter Try.func38, Try.ntmps38
      go_wp2_with fail
      refine (HTH.out _ H1.out.1).mono ?_
      rintro e w8 ⟨rfl, hb⟩
      have H9 := Lib.hid (And.intro ((newer_trans H1.out.1 hb)) ((H1.out.2.below hb H1.out.2.lt)))
      clear hb HTH H1 x0 x1
      have x0 := H9.out.2.at 0 (v := .slice s.a s.cs.length s.c) rfl
      have x1 := H9.out.2.at 1 (v := vi s.least) rfl
      go_wp2_with fail
      refine (HRI.out _ H9.out.1).mono ?_
      rintro e w10 ⟨rfl, hb⟩
      have H11 := Lib.hid (And.intro ((newer_trans H9.out.1 hb)) ((H9.out.2.below hb H9.out.2.lt)))
      clear hb HRI H9 x0 x1
      have x0 := H11.out.2.at 0 (v := .slice s.a s.cs.length s.c) rfl
      have x1 := H11.out.2.at 1 (v := vi s.least) rfl
      go_wp2_with fail
      go_ret
      exact ⟨by rw [HV.out]; rfl, H11.out.1⟩
/-- The least factor, and the error, that Worst returns. -/
def wE (s : Sd) : Int := match worstS s with
  | none => 7
  | some _ => 0
def wV (s : Sd) : Int := match worstS s with
  | none => 0
  | some (_, v) => v
theorem worst_num (s : Sm) (w : World) (hok : SmOk s w) (few : SmFew s) (hs : SdOk s.sd) : Calls Try.prog 25 #[smV s] w fun e w' => ∃ (a : Int) (A : Option Addr) (n c : Nat), e = .returned (.tuple #[.agg #[vi a, .slice A n c], vi (wV s.sd), vi (wE s.sd)]) ∧ newer w w' := by
  refine (worst_any s w hok few).mono ?_
  rintro e w' ⟨h1, h2⟩
  unfold worstOut at h1
  unfold wV wE
  rw [sdOk_iff.2 hs] at h1
  cases hw : worstS s.sd with
  | none =>
    rw [hw] at h1
    exact ⟨_, _, _, _, h1, h2⟩
  | some q =>
    obtain ⟨⟨k, l⟩, v⟩ := q
    rw [hw] at h1
    obtain ⟨A, c, h3, _⟩ := h1
    exact ⟨_, _, _, _, h3, h2⟩
theorem worst_of {s : Sd} (q : Option ((Nat × List Nat) × Int)) (h : worstS s = q) : (q = none ∧ wE s = 7 ∧ wV s = 0) ∨ ∃ u v, q = some (u, v) ∧ wE s = 0 ∧ wV s = v := by
  unfold wE wV
  rw [h]
  cases q with
  | none => exact .inl ⟨rfl, rfl, rfl⟩
  | some q => exact .inr ⟨_, _, rfl, rfl, rfl⟩
theorem worst_wet {s : Sd} (m : Int) : worstS (wetS s m) = worstR (hAt false (wetS s m)) (dAt s) s.n s.cols.length s.K := by
  unfold worstS
  rw [wet_drive, wet_n]
  have e1 : (wetS s m).cols.length = s.cols.length := by simp [wetS]
  rw [e1]
  rfl
/-- With more water the least factor is not greater. -/
theorem wet_less {s : Sd} (hs : SdOk s) {m m' : Nat} (h : m ≤ m') : wE (wetS s m) = wE (wetS s m') ∧ wV (wetS s m') ≤ wV (wetS s m) := by
  have ok := wet_hd hs m
  have ok' := wet_hd hs m'
  rcases worst_of _ (worst_wet (s := s) m) with ⟨h1, h2, h3⟩ | ⟨u, v, h1, h2, h3⟩
  · have h4 := (worst_none_iff ok').2 ((worst_none_iff ok).1 h1)
    rcases worst_of _ (worst_wet (s := s) m') with ⟨_, h5, h6⟩ | ⟨u, v, h5, _, _⟩
    · omega
    · rw [h4] at h5; cases h5
  · obtain ⟨u', v', h4, h5⟩ := worst_weak ok ok' (fun k b => wet_hold hs (by omega) k b) (fun _ _ => Int.le_refl _) h1
    rcases worst_of _ (worst_wet (s := s) m') with ⟨h6, _, _⟩ | ⟨u2, v2, h6, h7, h8⟩
    · rw [h4] at h6; cases h6
    · rw [h4] at h6
      simp only [Option.some.injEq, Prod.mk.injEq] at h6
      omega
theorem wE_is (s : Sd) : wE s = 0 ∨ wE s = 7 := by
  rcases worst_of _ (rfl : worstS s = worstS s) with ⟨_, h, _⟩ | ⟨_, _, _, h, _⟩
  · exact .inr h
  · exact .inl h
/-- Something is lower than a factor just if the least one is. -/
theorem low_w {s : Sd} (hs : SdOk s) {f : Int} (f0 : 0 ≤ f) (f1 : f ≤ 10000) (m : Nat) : (lowT (wetS s m) f (some false)).isSome = true ↔ wE (wetS s m) = 0 ∧ wV (wetS s m) < f := by
  rw [lowW_is, low_worst (wet_hd hs m) f0 f1, ← worst_wet]
  rcases worst_of _ (rfl : worstS (wetS s m) = worstS (wetS s m)) with ⟨h1, h2, h3⟩ | ⟨u, v, h1, h2, h3⟩
  · rw [h1, h2]
    constructor
    · rintro ⟨u, v, h, _⟩
      cases h
    · rintro ⟨h, _⟩
      cases h
  · rw [h1, h2, h3]
    constructor
    · rintro ⟨u', v', h, h4⟩
      simp only [Option.some.injEq, Prod.mk.injEq] at h
      exact ⟨rfl, by omega⟩
    · rintro ⟨_, h⟩
      exact ⟨u, v, rfl, h⟩
theorem wet_more {s : Sd} {f : Int} (h : marginOut s f = .tuple #[vi (marginS s f), vi 0]) : enoughN s f = 0 := by
  unfold marginOut at h
  by_cases he : enoughN s f = 0
  · exact he
  · rw [if_neg he] at h
    simp at h
    exact absurd h.2 he
/-- What Margin returns of a valid slope, told by its least factors. -/
theorem margin_says {s : Sd} (hs : SdOk s) {f : Int} (f0 : 0 ≤ f) (f1 : f ≤ 10000) : ∃ (m : Nat) (q : Int), marginOut s f = .tuple #[vi m, vi q] ∧ ((q = 10 ∧ wE s = 0 ∧ wV s < f) ∨ (q = 0 ∧ m ≤ 100000 ∧ (wE (wetS s m) = 0 → f ≤ wV (wetS s m)) ∧ (m < 100000 → wE (wetS s (m + 1 : Nat)) = 0 ∧ wV (wetS s (m + 1 : Nat)) < f))) := by
  have ha : askedN s f = 0 := by
    unfold askedN
    rw [sdOk_iff.2 hs, show inB f 0 10000 = true by simp only [inB, Bool.and_eq_true, decide_eq_true_eq]; omega]
    rfl
  have hw := low_w hs f0 f1 0
  rw [show ((0 : Nat) : Int) = 0 from rfl, wet_zero hs] at hw
  cases hl : lowT s f (some false) with
  | some u =>
    have he : enoughN s f = 10 := by unfold enoughN; rw [if_pos ha, hl]; rfl
    rw [hl] at hw
    exact ⟨0, 10, by unfold marginOut; rw [if_neg (by rw [he]; decide), he]; rfl, .inl ⟨rfl, hw.1 rfl⟩⟩
  | none =>
    have he : enoughN s f = 0 := by unfold enoughN; rw [if_pos ha, hl]; rfl
    have h0 : lowF (hAt false (wetS s ((0 : Nat) : Int))) (dAt s) s.n s.cols.length s.K f = none := by rw [← lowW_is, show ((0 : Nat) : Int) = 0 from rfl, wet_zero hs]; exact hl
    obtain ⟨g1, g2, g3⟩ := margin_is (hw := fun m : Nat => hAt false (wetS s m)) h0
    refine ⟨marginS s f, 0, by unfold marginOut; rw [if_pos he], .inr ⟨rfl, g1, fun h => ?_, fun h => ?_⟩⟩
    · by_cases hlt : f ≤ wV (wetS s (marginS s f))
      · exact hlt
      · have h2 := (low_w hs f0 f1 (marginS s f)).2 ⟨h, by omega⟩
        rw [lowW_is] at h2
        have h3 : lowF (hAt false (wetS s (marginS s f))) (dAt s) s.n s.cols.length s.K f = none := g2
        rw [h3] at h2
        cases h2
    · refine (low_w hs f0 f1 (marginS s f + 1)).1 ?_
      rw [lowW_is]
      exact g3 h
theorem worst_low0 {s : Sd} (hs : SdOk s) {f : Int} (f0 : 0 ≤ f) (f1 : f ≤ 10000) : (lowT s f (some false)).isSome = true ↔ wE s = 0 ∧ wV s < f := by
  have h := low_w hs f0 f1 0
  rw [show ((0 : Nat) : Int) = 0 from rfl, wet_zero hs] at h
  exact h
theorem few_of {s : Sm} (h : SdOk s.sd) : SmFew s := by
  have h1 := h.cols
  have h2 := h.beds
  rw [sd_len] at h1
  refine ⟨by omega, fun x hx => ?_⟩
  have h3 := h.len x.beds (List.mem_map.2 ⟨x, hx, rfl⟩)
  omega
/-- The program's slope of a slope, and then its Worst. -/
theorem slope_chain (s : Sm) (d : Sd) (w : World) (hok : SmOk s w) (hd : s.sd = d) (hs : SdOk d) : Calls Try.prog 19 #[smV s] w fun e w' => ∃ s2 : Sm, e = .returned (smV s2) ∧ (∀ W, newer w' W → Calls Try.prog 25 #[smV s2] W fun e w3 => ∃ (a : Int) (A : Option Addr) (n c : Nat), e = .returned (.tuple #[.agg #[vi a, .slice A n c], vi (wV d), vi (wE d)]) ∧ newer W w3) ∧ newer w w' := by
  subst hd
  refine (lawSlope s w hok (few_of hs)).mono ?_
  rintro e w' ⟨s2, rfl, h1, h2, h3⟩
  refine ⟨s2, rfl, fun W hW => ?_, h3⟩
  have h4 := worst_num s2 W (h2.next hW) (few_of (by rw [h1]; exact hs)) (by rw [h1]; exact hs)
  rw [h1] at h4
  exact h4
theorem row_nats {w : World} {B : Nat} {A : Option Addr} {c : Nat} {l : List Nat} {L : List Int} (hL : L = l.map fun x : Nat => (x : Int)) (h : w.ownsRow B 3 1 (.slice A l.length c) l.length (l.map fun x : Nat => vi x)) : L.length = l.length ∧ Row intL 1 w w.heap.size A L := by
  have e2 : L.length = l.length := by rw [hL, List.length_map]
  have e1 : (l.map fun x : Nat => vi x) = L.flatMap intL := by rw [hL, ← map_intL, List.map_map]; rfl
  rw [e1, ← e2] at h
  exact ⟨e2, row_of_own (enc := intL) (size := 1) (by omega) (fun _ => rfl) h⟩
theorem moves_few (s : Sd) (F : Int) (t : Option Bool) : (movesL s F t).length ≤ s.cols.length := by
  unfold movesL
  have := List.length_filter_le (fun x => moveB (cF (hT t s) (dAt s) F) s.n bigN s.cols.length s.K x) (List.range s.cols.length)
  simpa using this

end Go.Proofs.Ytkenokpobbichaa
