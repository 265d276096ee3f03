/- A truth, opened as an argument; what Run leaves, as words; Run's refusal. -/
import Derived.Test.YteonkhohloabfaaAT
import Derived.Test.YteonkhohloabfaaAO
namespace Go.Proofs.Yteonkhohloabfaa
open Go.ChangeShapes Go.WideShapes Go.ChangeAt Go.RowKit Go.Deep

theorem Try.cells43 : Try.prog.cellsOf 43 = 1 := by kernel_rfl
theorem Try.cells47 : Try.prog.cellsOf 47 = 4 := by kernel_rfl
section
variable {H : Type} {enc : TypeId × Value → H} {w : World} {base : Nat} {spare : Nat → Bool} {held : Bool} {fuel : Nat} {cs : List Value} {x : DataW H × List MemPlace}
theorem int_cells (h : DataW.trod enc Try.prog w base spare held fuel 3 cs = some x) : ∃ n : Int, cs = intL n := by
  obtain ⟨z, e, _⟩ := DataW.trod_int Try.underlying3 h
  exact ⟨z, e⟩
/-- A truth, as it comes in. -/
theorem truth_open (h : DataW.trod enc Try.prog w base spare held fuel 47 cs = some x) : ∃ (sn so : Int) (lv : List Int) (Lv : Option Addr) (lp : Nat) (rn : List Int) (Rn : Option Addr) (rp : Nat), cs = [vi sn, vi so, .slice Lv lv.length lp, .slice Rn rn.length rp] ∧ lv.length ≤ maxLen ∧ Row intL 1 w w.heap.size Lv lv ∧ rn.length ≤ maxLen ∧ Row intL 1 w w.heap.size Rn rn := by
  obtain ⟨xs, m, _, _, hlen, hxl, hg⟩ := DataW.trod_struct Try.underlying47 h
  rw [Try.cells47] at hlen
  obtain ⟨c0, c1, c2, c3, rfl⟩ := len4 hlen
  obtain ⟨y0, y1, y2, y3, rfl⟩ := len4 (show xs.length = 4 from hxl)
  have h0 := hg 0 _ rfl
  have h1 := hg 1 _ rfl
  have h2 := hg 2 _ rfl
  have h3 := hg 3 _ rfl
  simp [Try.cells3, Try.cells43] at h0 h1 h2 h3
  obtain ⟨z0, e0, _⟩ := DataW.trod_int Try.underlying3 h0
  obtain ⟨z1, e1, _⟩ := DataW.trod_int Try.underlying3 h1
  obtain ⟨A2, l2, p2, e2, hl2, hr2⟩ := open_row (ec := intL) Try.underlying43 Try.cells3 (fun _ => rfl) (by omega) int_cells h2
  obtain ⟨A3, l3, p3, e3, hl3, hr3⟩ := open_row (ec := intL) Try.underlying43 Try.cells3 (fun _ => rfl) (by omega) int_cells h3
  injection e0 with e0
  injection e1 with e1
  injection e2 with e2
  injection e3 with e3
  exact ⟨z0, z1, l2, A2, p2, l3, A3, p3, by rw [e0, e1, e2, e3], hl2, hr2, hl3, hr3⟩
end

/-- A ground made since. -/
def vGn (g : Gnd) (v : Value) (W : World) : Prop := ∃ A c, v = gndV A c g ∧ Row cellL 7 W W.heap.size A g.cells
theorem vGn_st {g : Gnd} : ∀ v W W', vGn g v W → newer W W' → vGn g v W' := fun _ _ _ ⟨A, c, h1, h2⟩ hb => ⟨A, c, h1, (h2.below hb).more hb.size⟩
/-- Days made since. -/
def vDy (l : List Day) (v : Value) (W : World) : Prop := ∃ A c, v = .slice A l.length c ∧ Row dayL 3 W W.heap.size A l
theorem vDy_st {l : List Day} : ∀ v W W', vDy l v W → newer W W' → vDy l v W' := fun _ _ _ ⟨A, c, h1, h2⟩ hb => ⟨A, c, h1, (h2.below hb).more hb.size⟩

/-- Run's levels: N rows of n numbers. -/
def vT1 (n N : Nat) (f : Nat → Nat → Int) (v : Value) (W : World) : Prop := ∃ (Q : Option Addr) (cq : Nat) (A : Nat → Option Addr) (c : Nat → Nat) (base : Nat), v = .slice Q N cq ∧ W.ownsRow base 43 1 (.slice Q N cq) N ((List.range N).map fun j => .slice (A j) n (c j)) ∧ ∀ j, j < N → Row intL 1 W W.heap.size (A j) ((List.range n).map (f j))
theorem vT1_st {n N : Nat} {f : Nat → Nat → Int} : ∀ v W W', vT1 n N f v W → newer W W' → vT1 n N f v W' := fun _ _ _ ⟨Q, cq, A, c, base, h1, h2, h3⟩ hb => ⟨Q, cq, A, c, base, h1, own_below h2 hb, fun j hj => ((h3 j hj).below hb).more hb.size⟩
/-- Run's left water: N numbers. -/
def vT2 (N : Nat) (sl : Nat → Int) (v : Value) (W : World) : Prop := ∃ Q cq base, v = .slice Q N cq ∧ W.ownsRow base 3 1 (.slice Q N cq) N ((List.range N).map fun j => vi (sl j))
theorem vT2_st {N : Nat} {sl : Nat → Int} : ∀ v W W', vT2 N sl v W → newer W W' → vT2 N sl v W' := fun _ _ _ ⟨Q, cq, base, h1, h2⟩ hb => ⟨Q, cq, base, h1, own_below h2 hb⟩
theorem vT1_at {n N : Nat} {f : Nat → Nat → Int} {Q : Option Addr} {cq : Nat} {W : World} (h : vT1 n N f (.slice Q N cq) W) {k : Nat} (hk : k < N) : ∃ q A c, Q = some ⟨q, 0, none⟩ ∧ W.cell? ⟨q, k, none⟩ = some (.slice A n c) ∧ Row intL 1 W W.heap.size A ((List.range n).map (f k)) := by
  obtain ⟨Q', cq', A, c, base, e, h2, h3⟩ := h
  injection e with e1 _ e2
  subst e1
  subst e2
  rcases h2.2 with ⟨_, h0⟩ | ⟨q, cap, _, e, _⟩
  · omega
  · injection e with e1 _ e2
    subst e1
    subst e2
    refine ⟨q, A k, c k, rfl, ?_, h3 k hk⟩
    rw [h2.cellAt k (by omega)]
    simp [hk]
theorem vT2_at {N : Nat} {sl : Nat → Int} {Q : Option Addr} {cq : Nat} {W : World} (h : vT2 N sl (.slice Q N cq) W) {k : Nat} (hk : k < N) : ∃ q, Q = some ⟨q, 0, none⟩ ∧ W.cell? ⟨q, k, none⟩ = some (vi (sl k)) := by
  obtain ⟨Q', cq', base, e, h2⟩ := h
  injection e with e1 _ e2
  subst e1
  subst e2
  rcases h2.2 with ⟨_, h0⟩ | ⟨q, cap, _, e, _⟩
  · omega
  · injection e with e1 _ e2
    subst e1
    subst e2
    refine ⟨q, rfl, ?_⟩
    rw [h2.cellAt k (by omega)]
    simp [hk]
/-- What Run has left. -/
def vRun (g : Gnd) (days : List Day) (snow soak : Int) (lv rn : List Int) (v : Value) (W : World) : Prop :=
  ∃ v1 v2, v = .tuple #[v1, v2, vi (stR g days snow soak lv rn days.length).snow, vi 0] ∧ vT1 g.cells.length days.length (fun j i => (stR g days snow soak lv rn (j + 1)).f i) v1 W ∧ vT2 days.length (fun j => (stR g days snow soak lv rn (j + 1)).left) v2 W
theorem vRun_st {g : Gnd} {days : List Day} {snow soak : Int} {lv rn : List Int} : ∀ v W W', vRun g days snow soak lv rn v W → newer W W' → vRun g days snow soak lv rn v W' := fun _ _ _ ⟨v1, v2, h1, h2, h3⟩ hb => ⟨v1, v2, h1, vT1_st _ _ _ h2 hb, vT2_st _ _ _ h3 hb⟩

/-- The error of a run. -/
def runN (g : Gnd) (days : List Day) (snow soak : Int) (lv rn : List Int) : Int := if faultN g days = 0 then (if fitsB g days snow soak lv rn = true then 0 else 9) else faultN g days
theorem runN_zero {g : Gnd} {days : List Day} {snow soak : Int} {lv rn : List Int} (h : runN g days snow soak lv rn = 0) : faultN g days = 0 ∧ fitsB g days snow soak lv rn = true := by
  unfold runN at h
  by_cases hf : faultN g days = 0
  · rw [if_pos hf] at h
    by_cases h2 : fitsB g days snow soak lv rn = true
    · exact ⟨hf, h2⟩
    · rw [if_neg h2] at h; omega
  · rw [if_neg hf] at h
    exact absurd h hf
theorem run_yes (g : Gnd) (A : Option Addr) (ap : Nat) (days : List Day) (D : Option Addr) (dp : Nat) (snow soak : Int) (lv : List Int) (L : Option Addr) (lp : Nat) (rn : List Int) (R : Option Addr) (rp : Nat) (w : World) (hn : g.cells.length ≤ 1000) (hm : days.length ≤ 1000) (hl : lv.length ≤ 1000) (hr : rn.length ≤ 1000)
    (hc : Row cellL 7 w w.heap.size A g.cells) (hd : Row dayL 3 w w.heap.size D days) (hL : Row intL 1 w w.heap.size L lv) (hR : Row intL 1 w w.heap.size R rn) (h0 : runN g days snow soak lv rn = 0) :
    Calls Try.prog 32 #[gndV A ap g, .slice D days.length dp, truthV snow soak L lv.length lp R rn.length rp] w fun e w' => (∃ v, e = .returned v ∧ vRun g days snow soak lv rn v w') ∧ Below w.heap.size w w' := by
  obtain ⟨hf, hfit⟩ := runN_zero h0
  refine (run_ok g A ap days D dp snow soak lv L lp rn R rp w hn hm hl hr hc hd hL hR hf hfit).mono ?_
  rintro e w' ⟨⟨v1, v2, Af, c, rfl, ht⟩, h2⟩
  obtain ⟨Q1, c1, rfl⟩ := own_form ht.own1
  obtain ⟨Q2, c2, rfl⟩ := own_form ht.own2
  exact ⟨⟨_, rfl, _, _, rfl, ⟨Q1, c1, Af, c, _, rfl, ht.own1, ht.rows⟩, ⟨Q2, c2, _, rfl, ht.own2⟩⟩, h2⟩
theorem run_no (g : Gnd) (A : Option Addr) (ap : Nat) (days : List Day) (D : Option Addr) (dp : Nat) (snow soak : Int) (lv : List Int) (L : Option Addr) (lp : Nat) (rn : List Int) (R : Option Addr) (rp : Nat) (w : World) (hn : g.cells.length ≤ 1000) (hm : days.length ≤ 1000) (hl : lv.length ≤ 1000) (hr : rn.length ≤ 1000)
    (hc : Row cellL 7 w w.heap.size A g.cells) (hd : Row dayL 3 w w.heap.size D days) (hL : Row intL 1 w w.heap.size L lv) (hR : Row intL 1 w w.heap.size R rn) (er : Int) (he : er = runN g days snow soak lv rn) (h0 : er ≠ 0) :
    Calls Try.prog 32 #[gndV A ap g, .slice D days.length dp, truthV snow soak L lv.length lp R rn.length rp] w fun e w' => e = .returned (.tuple #[.slice none 0 0, .slice none 0 0, vi 0, .int .i64 er]) ∧ Below w.heap.size w w' := by
  subst he
  unfold runN at h0 ⊢
  by_cases hf : faultN g days = 0
  · rw [if_pos hf] at h0 ⊢
    by_cases hfit : fitsB g days snow soak lv rn = true
    · rw [if_pos hfit] at h0; exact absurd rfl h0
    · rw [if_neg hfit]
      exact run_err2 g A ap days D dp snow soak lv L lp rn R rp w hn hm hl hr hc hd hL hR hf (by simpa using hfit)
  · rw [if_neg hf]
    exact run_err1 g A ap days D dp snow soak L lv.length lp R rn.length rp w hn hm hc hd hf
end Go.Proofs.Yteonkhohloabfaa
