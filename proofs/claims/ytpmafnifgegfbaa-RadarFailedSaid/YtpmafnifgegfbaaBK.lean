/- RadarFailed returns true: a tool that fails may be to blame, and those that may are just those without which some field agrees. -/
import Derived.Test.YtpmafnifgegfbaaBJ
namespace Go.Proofs.Ytpmafnifgegfbaa
open Go.ChangeShapes Go.WideShapes Go.ChangeAt Go.RowKit Go.Deep

theorem tools_cap {H : Type} {enc : TypeId × Value → H} {w : World} {base : Nat} {spare : Nat → Bool} {held : Bool} {fuel : Nat} {A : Option Addr} {n c : Nat} {x : DataW H × List MemPlace} (h : DataW.trod enc Try.prog w base spare held fuel 23 [.slice A n c] = some x) : n ≤ c := by
  rcases open_slice Try.underlying23 h with ⟨e, _⟩ | ⟨a, len, cap, m, n', D, Pl, e, hb, hl, hm, hmm, _, hi⟩
  · injection e with e _
    injection e with _ e2 e3
    omega
  · injection e with e _
    injection e with _ e2 e3
    omega
theorem survey_openC {H : Type} {enc : TypeId × Value → H} {w : World} {base : Nat} {spare : Nat → Bool} {held : Bool} {fuel : Nat} {cs : List Value} {x : DataW H × List MemPlace} (h : DataW.trod enc Try.prog w base spare held fuel 26 cs = some x) : ∃ y : Sm, cs = (smC y).toList ∧ (SmOk y w ∧ y.s.tools.length ≤ y.tc) := by
  obtain ⟨xs, m, _, _, hlen, hxl, hg⟩ := DataW.trod_struct Try.underlying26 h
  rw [Try.cells26] at hlen
  obtain ⟨c0, c1, c2, c3, c4, rfl⟩ := len5 hlen
  obtain ⟨y0, y1, y2, y3, y4, rfl⟩ := len5 (show xs.length = 5 from hxl)
  have h0 := hg 0 _ rfl
  have h1 := hg 1 _ rfl
  have h2 := hg 2 _ rfl
  have h3 := hg 3 _ rfl
  have h4 := hg 4 _ rfl
  simp [Try.cells3, Try.cells22, Try.cells23, Try.cells24] at h0 h1 h2 h3 h4
  obtain ⟨z1, e1, _⟩ := DataW.trod_int Try.underlying3 h1
  injection e1 with e1
  obtain ⟨z3, e3, _⟩ := DataW.trod_int Try.underlying3 h3
  injection e3 with e3
  obtain ⟨sa, sp, sc, e0, _, hsp⟩ := spots_open h0
  obtain ⟨ta, tl, tc, e2, _, htl⟩ := tools_open h2
  obtain ⟨ra, rd, rc, e4, _, hrd⟩ := ints_open h4
  rw [e2] at h2
  have hcap := tools_cap h2
  injection e0 with e0
  injection e2 with e2
  injection e4 with e4
  exact ⟨⟨⟨sp, z1, tl, z3, rd⟩, sa, sc, ta, tc, ra, rc⟩, by rw [e0, e1, e2, e3, e4], ⟨⟨hsp, htl, hrd⟩, hcap⟩⟩
set_option maxRecDepth 100000 in
set_option maxHeartbeats 1000000 in
theorem radarFailed_lifted (os : Os) (started : os.Started) (H : Type) (enc : TypeId × Value → H) :
    ReturnsInHanded {} Try.checked os 13 .any (Rows.radarFailedSpec.pre6 enc Try.prog Try.f13 Rows.radarFailedRow.domain false) (Rows.radarFailedSpec.post enc Try.prog Try.f13 false true false false) := by
  refine returnsInHanded_of_change (C := Try.checked) Try.own started (by kernel_rfl) Try.func13
    (ChangeSpec.witness6 (enc := enc) (C := Try.checked) false ⟨#[], #[.agg #[.slice none 0 0, .int .i64 0, .slice none 0 0, .int .i64 0, .slice none 0 0], .slice none 0 0, .int .u8 0, .int .i64 0], []⟩ 8 (by kernel_rfl) (by kernel_rfl) (by kernel_rfl) (by kernel_rfl)) ?_
  intro W base args ds gs before hval0 hW hcnd _
  have hval : ∀ (j : Nat) t v, Try.f13.params[j]? = some t → args[j]? = some v → Value.okWide Try.prog W .any base t v := hval0
  have hW' := hW
  obtain ⟨p, q, hA0, hV, rfl, hfz, hnd⟩ := hW
  have hA : DataW.TrodAll enc Try.prog W 0 (fun _ => true) true Try.f13.params.toList args.toList ds p := hA0
  rw [Try.params13] at hA hval
  obtain ⟨v0, vs0, d0, ds0, p0, q0, hargs, rfl, rfl, h0, r0⟩ := trodAll_cons hA
  obtain ⟨v1, vs1, d1, ds1, p1, q1, rfl, rfl, rfl, h1, r1⟩ := trodAll_cons r0
  obtain ⟨v2, vs2, d2, ds2, p2, q2, rfl, rfl, rfl, h2, r2⟩ := trodAll_cons r1
  obtain ⟨v3, vs3, d3, ds3, p3, q3, rfl, rfl, rfl, h3, r3⟩ := trodAll_cons r2
  obtain ⟨rfl, rfl, rfl⟩ := trodAll_nil r3
  obtain rfl : args = #[v0, v1, v2, v3] := by cases args; simp_all
  obtain ⟨rfl, rfl⟩ := trodVars_none hV
  obtain ⟨c0, rfl, hs0⟩ := okWide_struct Try.underlying26 (hval 0 26 v0 rfl rfl)
  have k0 := h0
  have lt0 : ∀ x ∈ p0, x.block < W.heap.size := by obtain ⟨m, hm⟩ := k0; exact DataW.trod_lt m _ _ _ hm
  obtain ⟨g0, e0, hrow0⟩ : ∃ p : Sm, c0.toList = (smC p).toList ∧ (SmOk p W ∧ p.s.tools.length ≤ p.tc) := by
    obtain ⟨fuel, hf⟩ := h0
    exact survey_openC hf
  obtain rfl : c0 = smC g0 := Array.toList_inj.1 e0
  obtain ⟨a1, len1, cap1, rfl⟩ := okWide_slice Try.underlying27 (hval 1 27 v1 rfl rfl)
  have k1 := h1
  have lt1 : ∀ x ∈ p1, x.block < W.heap.size := by obtain ⟨m, hm⟩ := k1; exact DataW.trod_lt m _ _ _ hm
  obtain ⟨D1, l1, dp1, e1, hl1, hrow1⟩ : ∃ (D : Option Addr) (l : List Hlf) (dp : Nat), (Value.slice a1 len1 cap1).cells.toList = [.slice D l.length dp] ∧ l.length ≤ maxLen ∧ Row hwL 1 W W.heap.size D l := by
    obtain ⟨fuel, hf⟩ := h1
    exact halves_open hf
  simp [Value.cells] at e1
  obtain ⟨rfl, rfl, rfl⟩ := e1
  obtain ⟨a2, rfl, rfl, rfl, w2⟩ := open_int Try.underlying5 (hval 2 5 v2 rfl rfl) h2
  obtain ⟨a3, rfl, rfl, rfl, w3⟩ := open_int Try.underlying3 (hval 3 3 v3 rfl rfl) h3
  have hb2 : 0 ≤ a2 ∧ a2 ≤ 255 := by
    have h := w2
    simp [Lit.wf] at h
    exact h
  obtain ⟨n2, rfl⟩ : ∃ n : Nat, a2 = n := ⟨a2.toNat, by omega⟩
  clear hA0 hval0
  refine (radarFailed_walk g0 l1 a1 cap1 n2 a3 W hrow0.1 hrow0.2 hl1 hrow1 (by omega)).mono fun e W' ⟨he, bel⟩ => ?_
  subst he
  exact ⟨_, rfl, _, _, _, [], _, [], hW', trodAll_mk1 (shut_bool Try.underlying4 _), (trodAll_cons_mk (Below.trod Try.laidOut (by kernel_rfl) (of_decide_eq_true (by kernel_rfl)) k0 bel lt0) (trodAll_cons_mk (Below.trod Try.laidOut (by kernel_rfl) (of_decide_eq_true (by kernel_rfl)) k1 bel lt1) (trodAll_cons_mk (shut_int Try.underlying5 w2) (trodAll_cons_mk (shut_int Try.underlying3 w3) trodAll_mk0)))), rfl, bel.frame _, fun h => by cases h⟩

theorem radarFailed_holds : Rows.RadarFailedSaid :=
  OpenClaim.holds_of_wide 13 Try.f13 rfl rfl rfl rfl rfl rfl rfl ⟨rfl, rfl, rfl, rfl, rfl⟩ rfl rfl rfl rfl rfl (by kernel_rfl) Try.func13 (by kernel_rfl)
    (of_decide_eq_true (by kernel_rfl)) (by unfold Func.isWrapper; first | (rw [if_pos (by decide +kernel)]; kernel_rfl) | (rw [if_neg (by decide +kernel)]; exact ⟨rfl, rfl⟩))
    (fun os started H enc _ => radarFailed_lifted os started H enc)
#print axioms radarFailed_holds

end Go.Proofs.Ytpmafnifgegfbaa
