/- Truths that fit, between the two ends: words for the laws that compare runs. -/
import Derived.Test.YteonkhohloabfaaBA
import Derived.Test.YteonkhohloabfaaAH
namespace Go.Proofs.Yteonkhohloabfaa
open Go.RowKit

theorem mapAtI {α : Type} (l : List α) (f : α → Int) {i : Nat} {c : α} (h : l[i]? = some c) : iAt (l.map f) i = f c := by simp [iAt, h]
/-- The ends of all ranges fit. -/
theorem ends_fit (hi : Bool) {g : Gnd} {days : List Day} (hf : faultN g days = 0) : fitsB g days (endOf hi g.slo g.shi) (endOf hi g.klo g.khi) (g.cells.map fun c => endOf hi c.lo c.hi) (days.map fun d => endOf hi d.lo d.hi) = true := by
  have ok := wayOk_end false hf
  obtain ⟨h1, _, _⟩ := fault_zero hf
  simp only [gndB, Bool.and_eq_true, inB, upB, decide_eq_true_eq] at h1
  obtain ⟨⟨⟨⟨⟨_, _⟩, hs⟩, hk⟩, _⟩, _⟩ := h1
  simp only [fitsB, Bool.and_eq_true, inB, decide_eq_true_eq, List.length_map]
  refine ⟨⟨⟨⟨⟨trivial, trivial⟩, ?_⟩, ?_⟩, goodB_true fun j hj => ?_⟩, goodB_true fun j hj => ?_⟩
  · cases hi <;> simp only [endOf, Bool.false_eq_true, if_true, if_false] <;> omega
  · cases hi <;> simp only [endOf, Bool.false_eq_true, if_true, if_false] <;> omega
  · obtain ⟨c, hc⟩ := get_of_lt hj
    have h4 := ok.cells j hj
    rw [cAt_of hc] at h4
    have a := h4.lohi
    simp only [lvB, inB, Bool.and_eq_true, decide_eq_true_eq, mapAtI _ _ hc, cAt_of hc]
    cases hi <;> simp only [endOf, Bool.false_eq_true, if_true, if_false] <;> omega
  · obtain ⟨c, hc⟩ := get_of_lt hj
    have h4 := ok.ds j hj
    rw [dAt_of hc] at h4
    have a := h4.lohi
    simp only [rnB, inB, Bool.and_eq_true, decide_eq_true_eq, mapAtI _ _ hc, dAt_of hc]
    cases hi <;> simp only [endOf, Bool.false_eq_true, if_true, if_false] <;> omega
/-- A truth that fits lies between the ends. -/
theorem stR_lo {g : Gnd} {days : List Day} {snow soak : Int} {lv rn : List Int} (hf : faultN g days = 0) (hfit : fitsB g days snow soak lv rn = true) {k : Nat} (hk : k ≤ days.length) :
    (∀ i, i < g.cells.length → (stE false g days k).f i ≤ (stR g days snow soak lv rn k).f i) ∧ (stE false g days k).snow ≤ (stR g days snow soak lv rn k).snow := by
  have ok := wayOk_tr hf hfit
  have oke := wayOk_end false hf
  simp only [fitsB, Bool.and_eq_true, inB, decide_eq_true_eq] at hfit
  obtain ⟨⟨⟨⟨⟨f1, f2⟩, f3⟩, f4⟩, f5⟩, f6⟩ := hfit
  refine stAt_mono ok oke (Drier.refl _) f4.1 (fun i hi => ?_) (fun i hi => ?_) f3.1 k hk
  · have h4 := goodB_at f6 i hi
    simp only [rnB, inB, Bool.and_eq_true, decide_eq_true_eq] at h4
    obtain ⟨c, hc⟩ := get_of_lt hi
    rw [mapAtI _ _ hc]
    rw [dAt_of hc] at h4
    exact h4.1
  · have h4 := goodB_at f5 i hi
    simp only [lvB, inB, Bool.and_eq_true, decide_eq_true_eq] at h4
    obtain ⟨c, hc⟩ := get_of_lt hi
    simp only [stEnd]
    rw [mapAtI _ _ hc]
    rw [cAt_of hc] at h4
    exact h4.1
theorem stR_hi {g : Gnd} {days : List Day} {snow soak : Int} {lv rn : List Int} (hf : faultN g days = 0) (hfit : fitsB g days snow soak lv rn = true) {k : Nat} (hk : k ≤ days.length) :
    (∀ i, i < g.cells.length → (stR g days snow soak lv rn k).f i ≤ (stE true g days k).f i) ∧ (stR g days snow soak lv rn k).snow ≤ (stE true g days k).snow := by
  have ok := wayOk_tr hf hfit
  have oke := wayOk_end true hf
  simp only [fitsB, Bool.and_eq_true, inB, decide_eq_true_eq] at hfit
  obtain ⟨⟨⟨⟨⟨f1, f2⟩, f3⟩, f4⟩, f5⟩, f6⟩ := hfit
  refine stAt_mono oke ok (Drier.refl _) f4.2 (fun i hi => ?_) (fun i hi => ?_) f3.2 k hk
  · have h4 := goodB_at f6 i hi
    simp only [rnB, inB, Bool.and_eq_true, decide_eq_true_eq] at h4
    obtain ⟨c, hc⟩ := get_of_lt hi
    rw [mapAtI _ _ hc]
    rw [dAt_of hc] at h4
    exact h4.2
  · have h4 := goodB_at f5 i hi
    simp only [lvB, inB, Bool.and_eq_true, decide_eq_true_eq] at h4
    obtain ⟨c, hc⟩ := get_of_lt hi
    simp only [stEnd]
    rw [mapAtI _ _ hc]
    rw [cAt_of hc] at h4
    exact h4.2

/-- A truth that fits, somewhere. -/
def vTrF (g : Gnd) (days : List Day) (v : Value) (W : World) : Prop := ∃ sn so lv rn, vTr sn so lv rn v W ∧ fitsB g days sn so lv rn = true
theorem vTrF_st {g : Gnd} {days : List Day} : ∀ v W W', vTrF g days v W → newer W W' → vTrF g days v W' := fun _ _ _ ⟨a, b, c, d, h1, h2⟩ hb => ⟨a, b, c, d, vTr_st _ _ _ h1 hb, h2⟩
/-- What Run leaves of a truth that fits: levels between the ends. -/
def vLvF (g : Gnd) (days : List Day) (v : Value) (W : World) : Prop := ∃ f : Nat → Nat → Int, vT1 g.cells.length days.length f v W ∧ ∀ k i, k < days.length → i < g.cells.length → (stE false g days (k + 1)).f i ≤ f k i ∧ f k i ≤ (stE true g days (k + 1)).f i
theorem vLvF_st {g : Gnd} {days : List Day} : ∀ v W W', vLvF g days v W → newer W W' → vLvF g days v W' := fun _ _ _ ⟨f, h1, h2⟩ hb => ⟨f, vT1_st _ _ _ h1 hb, h2⟩
def vSnF (g : Gnd) (days : List Day) (v : Value) (_ : World) : Prop := ∃ s : Int, v = vi s ∧ (stE false g days days.length).snow ≤ s ∧ s ≤ (stE true g days days.length).snow
theorem vSnF_st {g : Gnd} {days : List Day} : ∀ v W W', vSnF g days v W → newer W W' → vSnF g days v W' := fun _ _ _ h _ => h
def vRunF (g : Gnd) (days : List Day) (v : Value) (W : World) : Prop := ∃ v1 v2 v3, v = .tuple #[v1, v2, v3, vi 0] ∧ vLvF g days v1 W ∧ (∃ sl, vT2 days.length sl v2 W) ∧ vSnF g days v3 W
theorem vRunF_st {g : Gnd} {days : List Day} : ∀ v W W', vRunF g days v W → newer W W' → vRunF g days v W' := fun _ _ _ ⟨a, b, c, h1, h2, ⟨sl, h3⟩, h4⟩ hb => ⟨a, b, c, h1, vLvF_st _ _ _ h2 hb, ⟨sl, vT2_st _ _ _ h3 hb⟩, h4⟩
theorem vRunF_of {g : Gnd} {days : List Day} {snow soak : Int} {lv rn : List Int} {v : Value} {W : World} (hf : faultN g days = 0) (hfit : fitsB g days snow soak lv rn = true) (h : vRun g days snow soak lv rn v W) : vRunF g days v W := by
  obtain ⟨v1, v2, rfl, h1, h2⟩ := h
  exact ⟨v1, v2, _, rfl, ⟨_, h1, fun k i hk hi => ⟨(stR_lo hf hfit (by omega)).1 i hi, (stR_hi hf hfit (by omega)).1 i hi⟩⟩, ⟨_, h2⟩, _, rfl, (stR_lo hf hfit (Nat.le_refl _)).2, (stR_hi hf hfit (Nat.le_refl _)).2⟩
def vLf (n : Nat) (v : Value) (W : World) : Prop := ∃ sl, vT2 n sl v W
theorem vLf_st {n : Nat} : ∀ v W W', vLf n v W → newer W W' → vLf n v W' := fun _ _ _ ⟨sl, h⟩ hb => ⟨sl, vT2_st _ _ _ h hb⟩
theorem lawTruthE (hi : Bool) (g : Gnd) (days : List Day) (L : Option Addr) (lp : Nat) (R : Option Addr) (rp : Nat) (w : World) (hl : g.cells.length ≤ 1000) (hr : days.length ≤ 1000) (hL : Row intL 1 w w.heap.size L (g.cells.map fun c => endOf hi c.lo c.hi)) (hR : Row intL 1 w w.heap.size R (days.map fun d => endOf hi d.lo d.hi)) :
    Calls Try.prog 33 #[truthV (endOf hi g.slo g.shi) (endOf hi g.klo g.khi) L g.cells.length lp R days.length rp] w fun e w' => (∃ v, e = .returned v ∧ vTruth 0 hi g days v w') ∧ Below w.heap.size w w' := by
  have h := lawTruth (endOf hi g.slo g.shi) (endOf hi g.klo g.khi) (g.cells.map fun c => endOf hi c.lo c.hi) (days.map fun d => endOf hi d.lo d.hi) L lp R rp w (by simpa using hl) (by simpa using hr) hL hR
  simp only [List.length_map] at h
  refine h.mono ?_
  rintro e w' ⟨⟨v, rfl, L', lp', R', rp', rfl, h1, h2⟩, hb⟩
  refine ⟨⟨_, rfl, L', lp', R', rp', ?_, h1, h2, fun _ _ => Nat.zero_le _, fun _ _ => Nat.zero_le _⟩, hb⟩
  simp only [List.length_map]
/-- What Run leaves of the truth of the ends. -/
def vRunE (hi : Bool) (g : Gnd) (days : List Day) (v : Value) (W : World) : Prop :=
  ∃ v1 v2, v = .tuple #[v1, v2, vi (stE hi g days days.length).snow, vi 0] ∧ vT1 g.cells.length days.length (fun j i => (stE hi g days (j + 1)).f i) v1 W ∧ vLf days.length v2 W
theorem vRunE_st {hi : Bool} {g : Gnd} {days : List Day} : ∀ v W W', vRunE hi g days v W → newer W W' → vRunE hi g days v W' := fun _ _ _ ⟨v1, v2, h1, h2, h3⟩ hb => ⟨v1, v2, h1, vT1_st _ _ _ h2 hb, vLf_st _ _ _ h3 hb⟩
theorem vRunE_of {hi : Bool} {g : Gnd} {days : List Day} {v : Value} {W : World} (h : vRun g days (endOf hi g.slo g.shi) (endOf hi g.klo g.khi) (g.cells.map fun c => endOf hi c.lo c.hi) (days.map fun d => endOf hi d.lo d.hi) v W) : vRunE hi g days v W := by
  obtain ⟨v1, v2, rfl, h1, h2⟩ := h
  exact ⟨v1, v2, rfl, h1, ⟨_, h2⟩⟩
theorem run_ends (hi : Bool) (g : Gnd) (A : Option Addr) (ap : Nat) (days : List Day) (D : Option Addr) (dp : Nat) (L : Option Addr) (lp : Nat) (R : Option Addr) (rp : Nat) (w : World) (hn : g.cells.length ≤ 1000) (hm : days.length ≤ 1000) (hf : faultN g days = 0)
    (hc : Row cellL 7 w w.heap.size A g.cells) (hd : Row dayL 3 w w.heap.size D days) (hL : Row intL 1 w w.heap.size L (g.cells.map fun c => endOf hi c.lo c.hi)) (hR : Row intL 1 w w.heap.size R (days.map fun d => endOf hi d.lo d.hi)) :
    Calls Try.prog 32 #[gndV A ap g, .slice D days.length dp, truthV (endOf hi g.slo g.shi) (endOf hi g.klo g.khi) L g.cells.length lp R days.length rp] w fun e w' => (∃ v, e = .returned v ∧ vRunE hi g days v w') ∧ Below w.heap.size w w' := by
  have h := run_yes g A ap days D dp (endOf hi g.slo g.shi) (endOf hi g.klo g.khi) (g.cells.map fun c => endOf hi c.lo c.hi) L lp (days.map fun d => endOf hi d.lo d.hi) R rp w hn hm (by simpa using hn) (by simpa using hm) hc hd hL hR (runN_ok hf (ends_fit hi hf))
  simp only [List.length_map] at h
  refine h.mono ?_
  rintro e w' ⟨⟨v, rfl, hv⟩, hb⟩
  exact ⟨⟨_, rfl, vRunE_of hv⟩, hb⟩
/-- Levels' rows, as words. -/
structure LvT (g : Gnd) (days : List Day) (B1 : Option Addr) (d1 : Nat) (B2 : Option Addr) (d2 base : Nat) (gb : Nat → Nat) (W : World) : Prop where
  tab : Tab W base g.cells.length (.slice B1 days.length d1) (.slice B2 days.length d2) gb days.length (fun j i => (stE false g days (j + 1)).f i) (fun j i => (stE true g days (j + 1)).f i) (fun j => (stE false g days (j + 1)).snow) (fun j => (stE true g days (j + 1)).snow)
section
variable {g : Gnd} {days : List Day} {B1 : Option Addr} {d1 : Nat} {B2 : Option Addr} {d2 base : Nat} {gb : Nat → Nat} {W W' : World}
theorem LvT.next (h : LvT g days B1 d1 B2 d2 base gb W) (hb : newer W W') : LvT g days B1 d1 B2 d2 base gb W' := ⟨h.tab.newer hb⟩
theorem LvT.at1 (h : LvT g days B1 d1 B2 d2 base gb W) {k : Nat} (hk : k < days.length) : ∃ q, B1 = some ⟨q, 0, none⟩ ∧ W.cell? ⟨q, k, none⟩ = some (.slice (some ⟨gb k, 0, none⟩) g.cells.length g.cells.length) := by
  obtain ⟨tab⟩ := h
  obtain ⟨q1, c1, e1⟩ := tab.form1 (by omega)
  injection e1 with e1 _ e2
  subst e1
  subst e2
  exact ⟨q1, rfl, tab.at1 hk⟩
theorem LvT.cells (h : LvT g days B1 d1 B2 d2 base gb W) {k i : Nat} (hk : k < days.length) (hi : i < g.cells.length) : W.cell? ⟨gb k, i * 2, none⟩ = some (vi ((stE false g days (k + 1)).f i)) ∧ W.cell? ⟨gb k, i * 2 + 1, none⟩ = some (vi ((stE true g days (k + 1)).f i)) :=
  row_cell (h.tab.rows k hk) hi
theorem LvT.at2 (h : LvT g days B1 d1 B2 d2 base gb W) {k : Nat} (hk : k < days.length) : ∃ q, B2 = some ⟨q, 0, none⟩ ∧ W.cell? ⟨q, k * 2, none⟩ = some (vi (stE false g days (k + 1)).snow) ∧ W.cell? ⟨q, k * 2 + 1, none⟩ = some (vi (stE true g days (k + 1)).snow) := by
  obtain ⟨tab⟩ := h
  obtain ⟨q1, c1, e1⟩ := tab.form2 (by omega)
  injection e1 with e1 _ e2
  subst e1
  subst e2
  exact ⟨q1, rfl, tab.at2 hk⟩
end
theorem levels_yes (g : Gnd) (A : Option Addr) (ap : Nat) (days : List Day) (D : Option Addr) (dp : Nat) (w : World) (hn : g.cells.length ≤ 1000) (hm : days.length ≤ 1000) (hc : Row cellL 7 w w.heap.size A g.cells) (hd : Row dayL 3 w w.heap.size D days) (hf : faultN g days = 0) :
    Calls Try.prog 18 #[gndV A ap g, .slice D days.length dp] w fun e w' => (∃ B1 d1 B2 d2 base gb, e = .returned (.tuple #[.slice B1 days.length d1, .slice B2 days.length d2, vi 0]) ∧ LvT g days B1 d1 B2 d2 base gb w') ∧ Below w.heap.size w w' := by
  refine (levels_ok g A ap days D dp w hn hm hc hd hf (fault_cells hf).2).mono ?_
  rintro e w' ⟨v1, v2, gb, base, rfl, _, htab, hb⟩
  obtain ⟨B1, d1, rfl⟩ := own_form htab.own1
  obtain ⟨B2, d2, rfl⟩ := own_form htab.own2
  exact ⟨⟨B1, d1, B2, d2, base, gb, rfl, ⟨htab⟩⟩, hb⟩
end Go.Proofs.Yteonkhohloabfaa
