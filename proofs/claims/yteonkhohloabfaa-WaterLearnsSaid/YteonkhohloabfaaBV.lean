/- The law WaterLearns returns true for every ground, all days, all readings and every word, and leaves what it was given as it was. -/
import Derived.Test.YteonkhohloabfaaBU
namespace Go.Proofs.Yteonkhohloabfaa
open Go.ChangeShapes Go.WideShapes Go.ChangeAt Go.RowKit Go.Deep

set_option maxRecDepth 100000 in
set_option maxHeartbeats 1000000 in
theorem waterLearns_lifted (os : Os) (started : os.Started) (H : Type) (enc : TypeId × Value → H) :
    ReturnsInHanded {} Try.checked os 13 .any (Rows.waterLearnsSpec.pre6 enc Try.prog Try.f13 Rows.waterLearnsRow.domain false) (Rows.waterLearnsSpec.post enc Try.prog Try.f13 false true false false) := by
  refine returnsInHanded_of_change (C := Try.checked) Try.own started (by kernel_rfl) Try.func13
    (ChangeSpec.witness6 (enc := enc) (C := Try.checked) false ⟨#[], #[.agg #[.slice none 0 0, .int .i64 0, .int .i64 0, .int .i64 0, .int .i64 0, .int .i64 0], .slice none 0 0, .slice none 0 0, .int .u16 0], []⟩ 8 (by kernel_rfl) (by kernel_rfl) (by kernel_rfl) (by kernel_rfl)) ?_
  intro W base args ds gs before hval0 hW hcnd _
  have hval : ∀ (j : Nat) t v, Try.f13.params[j]? = some t → args[j]? = some v → Value.okWide Try.prog W .any base t v := hval0
  have hW' := hW
  obtain ⟨p, q, hA0, hV, rfl, hfz, hnd⟩ := hW
  have hA : DataW.TrodAll enc Try.prog W 0 (fun _ => true) true Try.f13.params.toList args.toList ds p := hA0
  rw [Try.params13] at hA hval
  obtain ⟨v0, vs0, d0, ds0, p0, q0, hargs, rfl, rfl, h0, r0⟩ := trodAll_cons hA
  obtain ⟨v1, vs1, d1, ds1, p1, q1, rfl, rfl, rfl, h1, r1⟩ := trodAll_cons r0
  obtain ⟨v2, vs2, d2, ds2, p2, q2, rfl, rfl, rfl, h2, r2⟩ := trodAll_cons r1
  obtain ⟨v3, vs3, d3, ds3, p3, q3, rfl, rfl, rfl, h3, r3⟩ := trodAll_cons r2
  obtain ⟨rfl, rfl, rfl⟩ := trodAll_nil r3
  obtain rfl : args = #[v0, v1, v2, v3] := by cases args; simp_all
  obtain ⟨rfl, rfl⟩ := trodVars_none hV
  obtain ⟨c0, rfl, hs0⟩ := okWide_struct Try.underlying26 (hval 0 26 v0 rfl rfl)
  have k0 := h0
  have lt0 : ∀ x ∈ p0, x.block < W.heap.size := by obtain ⟨m, hm⟩ := k0; exact DataW.trod_lt m _ _ _ hm
  obtain ⟨g0, A0, cp0, e0, hl0, hrow0⟩ : ∃ (g : Gnd) (A : Option Addr) (cp : Nat), c0.toList = [.slice A g.cells.length cp, vi g.slo, vi g.shi, vi g.klo, vi g.khi, vi g.melt] ∧ g.cells.length ≤ maxLen ∧ Row cellL 7 W W.heap.size A g.cells := by
    obtain ⟨fuel, hf⟩ := h0
    exact ground_open hf
  obtain rfl : c0 = gndC A0 cp0 g0 := by cases c0; simp_all
  obtain ⟨a1, len1, cap1, rfl⟩ := okWide_slice Try.underlying27 (hval 1 27 v1 rfl rfl)
  have k1 := h1
  have lt1 : ∀ x ∈ p1, x.block < W.heap.size := by obtain ⟨m, hm⟩ := k1; exact DataW.trod_lt m _ _ _ hm
  obtain ⟨D1, l1, dp1, e1, hl1, hrow1⟩ : ∃ (D : Option Addr) (l : List Day) (dp : Nat), (Value.slice a1 len1 cap1).cells.toList = [.slice D l.length dp] ∧ l.length ≤ maxLen ∧ Row dayL 3 W W.heap.size D l := by
    obtain ⟨fuel, hf⟩ := h1
    exact days_open hf
  simp [Value.cells] at e1
  obtain ⟨rfl, rfl, rfl⟩ := e1
  obtain ⟨a2, len2, cap2, rfl⟩ := okWide_slice Try.underlying81 (hval 2 81 v2 rfl rfl)
  have k2 := h2
  have lt2 : ∀ x ∈ p2, x.block < W.heap.size := by obtain ⟨m, hm⟩ := k2; exact DataW.trod_lt m _ _ _ hm
  obtain ⟨D2, l2, dp2, e2, hl2, hrow2⟩ : ∃ (D : Option Addr) (l : List Rdg) (dp : Nat), (Value.slice a2 len2 cap2).cells.toList = [.slice D l.length dp] ∧ l.length ≤ maxLen ∧ Row rdgL 4 W W.heap.size D l := by
    obtain ⟨fuel, hf⟩ := h2
    exact readings_open hf
  simp [Value.cells] at e2
  obtain ⟨rfl, rfl, rfl⟩ := e2
  obtain ⟨a3, rfl, rfl, rfl, w3⟩ := open_int Try.underlying75 (hval 3 75 v3 rfl rfl) h3
  have hb3 := bounds_u16 w3
  clear hA0 hval0
  refine (waterLearns_walk g0 A0 cp0 l1 a1 cap1 l2 a2 cap2 a3 W hb3.1 hb3.2 hrow0 hrow1 hrow2).mono fun e W' ⟨he, bel⟩ => ?_
  subst he
  exact ⟨_, rfl, _, _, _, [], _, [], hW', trodAll_mk1 (shut_bool Try.underlying4 _), (trodAll_cons_mk (Below.trod Try.laidOut (by kernel_rfl) (of_decide_eq_true (by kernel_rfl)) k0 bel lt0) (trodAll_cons_mk (Below.trod Try.laidOut (by kernel_rfl) (of_decide_eq_true (by kernel_rfl)) k1 bel lt1) (trodAll_cons_mk (Below.trod Try.laidOut (by kernel_rfl) (of_decide_eq_true (by kernel_rfl)) k2 bel lt2) (trodAll_cons_mk (shut_int Try.underlying75 w3) trodAll_mk0)))), rfl, bel.frame _, fun h => by cases h⟩

theorem waterLearns_holds : Rows.WaterLearnsSaid :=
  OpenClaim.holds_of_wide 13 Try.f13 rfl rfl rfl rfl rfl rfl rfl ⟨rfl, rfl, rfl, rfl, rfl⟩ rfl rfl rfl rfl rfl (by kernel_rfl) Try.func13 (by kernel_rfl)
    (of_decide_eq_true (by kernel_rfl)) (by unfold Func.isWrapper; first | (rw [if_pos (by decide +kernel)]; kernel_rfl) | (rw [if_neg (by decide +kernel)]; exact ⟨rfl, rfl⟩))
    (fun os started H enc _ => waterLearns_lifted os started H enc)
#print axioms waterLearns_holds
end Go.Proofs.Yteonkhohloabfaa
