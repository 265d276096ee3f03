/- RadarBlames returns true: the tools that may be to blame are as the document says, or the error is. -/
import Derived.Test.YtpmafnifgegfbaaBX
import Derived.Test.YtpmafnifgegfbaaAI
namespace Go.Proofs.Ytpmafnifgegfbaa
open Go.ChangeShapes Go.WideShapes Go.ChangeAt Go.RowKit Go.Deep

theorem tools_capB {H : Type} {enc : TypeId × Value → H} {w : World} {base : Nat} {spare : Nat → Bool} {held : Bool} {fuel : Nat} {A : Option Addr} {n c : Nat} {x : DataW H × List MemPlace} (h : DataW.trod enc Try.prog w base spare held fuel 23 [.slice A n c] = some x) : n ≤ c := by
  rcases open_slice Try.underlying23 h with ⟨e, _⟩ | ⟨a, len, cap, m, n', D, Pl, e, hb, hl, hm, hmm, _, hi⟩
  · injection e with e _
    injection e with _ e2 e3
    omega
  · injection e with e _
    injection e with _ e2 e3
    omega
theorem ints_capB {H : Type} {enc : TypeId × Value → H} {w : World} {base : Nat} {spare : Nat → Bool} {held : Bool} {fuel : Nat} {A : Option Addr} {n c : Nat} {x : DataW H × List MemPlace} (h : DataW.trod enc Try.prog w base spare held fuel 24 [.slice A n c] = some x) : n ≤ c := by
  rcases open_slice Try.underlying24 h with ⟨e, _⟩ | ⟨a, len, cap, m, n', D, Pl, e, hb, hl, hm, hmm, _, hi⟩
  · injection e with e _
    injection e with _ e2 e3
    omega
  · injection e with e _
    injection e with _ e2 e3
    omega
theorem survey_openB {H : Type} {enc : TypeId × Value → H} {w : World} {base : Nat} {spare : Nat → Bool} {held : Bool} {fuel : Nat} {cs : List Value} {x : DataW H × List MemPlace} (h : DataW.trod enc Try.prog w base spare held fuel 26 cs = some x) : ∃ y : Sm, cs = (smC y).toList ∧ (SmOk y w ∧ y.s.tools.length ≤ y.tc ∧ y.s.reads.length ≤ y.rc) := by
  obtain ⟨xs, m, _, _, hlen, hxl, hg⟩ := DataW.trod_struct Try.underlying26 h
  rw [Try.cells26] at hlen
  obtain ⟨c0, c1, c2, c3, c4, rfl⟩ := len5 hlen
  obtain ⟨y0, y1, y2, y3, y4, rfl⟩ := len5 (show xs.length = 5 from hxl)
  have h0 := hg 0 _ rfl
  have h1 := hg 1 _ rfl
  have h2 := hg 2 _ rfl
  have h3 := hg 3 _ rfl
  have h4 := hg 4 _ rfl
  simp [Try.cells3, Try.cells22, Try.cells23, Try.cells24] at h0 h1 h2 h3 h4
  obtain ⟨z1, e1, _⟩ := DataW.trod_int Try.underlying3 h1
  injection e1 with e1
  obtain ⟨z3, e3, _⟩ := DataW.trod_int Try.underlying3 h3
  injection e3 with e3
  obtain ⟨sa, sp, sc, e0, _, hsp⟩ := spots_open h0
  obtain ⟨ta, tl, tc, e2, _, htl⟩ := tools_open h2
  obtain ⟨ra, rd, rc, e4, _, hrd⟩ := ints_open h4
  rw [e2] at h2
  have hcap := tools_capB h2
  rw [e4] at h4
  have hcap4 := ints_capB h4
  injection e0 with e0
  injection e2 with e2
  injection e4 with e4
  exact ⟨⟨⟨sp, z1, tl, z3, rd⟩, sa, sc, ta, tc, ra, rc⟩, by rw [e0, e1, e2, e3, e4], ⟨⟨hsp, htl, hrd⟩, hcap, hcap4⟩⟩
set_option maxRecDepth 100000 in
set_option maxHeartbeats 1000000 in
theorem radarBlames_lifted (os : Os) (started : os.Started) (H : Type) (enc : TypeId × Value → H) :
    ReturnsInHanded {} Try.checked os 12 .any (Rows.radarBlamesSpec.pre6 enc Try.prog Try.f12 Rows.radarBlamesRow.domain false) (Rows.radarBlamesSpec.post enc Try.prog Try.f12 false true false false) := by
  refine returnsInHanded_of_change (C := Try.checked) Try.own started (by kernel_rfl) Try.func12
    (ChangeSpec.witness6 (enc := enc) (C := Try.checked) false ⟨#[], #[.agg #[.slice none 0 0, .int .i64 0, .slice none 0 0, .int .i64 0, .slice none 0 0]], []⟩ 8 (by kernel_rfl) (by kernel_rfl) (by kernel_rfl) (by kernel_rfl)) ?_
  intro W base args ds gs before hval0 hW hcnd _
  have hval : ∀ (j : Nat) t v, Try.f12.params[j]? = some t → args[j]? = some v → Value.okWide Try.prog W .any base t v := hval0
  have hW' := hW
  obtain ⟨p, q, hA0, hV, rfl, hfz, hnd⟩ := hW
  have hA : DataW.TrodAll enc Try.prog W 0 (fun _ => true) true Try.f12.params.toList args.toList ds p := hA0
  rw [Try.params12] at hA hval
  obtain ⟨v0, vs0, d0, ds0, p0, q0, hargs, rfl, rfl, h0, r0⟩ := trodAll_cons hA
  obtain ⟨rfl, rfl, rfl⟩ := trodAll_nil r0
  obtain rfl : args = #[v0] := by cases args; simp_all
  obtain ⟨rfl, rfl⟩ := trodVars_none hV
  obtain ⟨c0, rfl, hs0⟩ := okWide_struct Try.underlying26 (hval 0 26 v0 rfl rfl)
  have k0 := h0
  have lt0 : ∀ x ∈ p0, x.block < W.heap.size := by obtain ⟨m, hm⟩ := k0; exact DataW.trod_lt m _ _ _ hm
  obtain ⟨g0, e0, hrow0⟩ : ∃ p : Sm, c0.toList = (smC p).toList ∧ (SmOk p W ∧ p.s.tools.length ≤ p.tc ∧ p.s.reads.length ≤ p.rc) := by
    obtain ⟨fuel, hf⟩ := h0
    exact survey_openB hf
  obtain rfl : c0 = smC g0 := Array.toList_inj.1 e0
  clear hA0 hval0
  refine (radarBlames_walk g0 W hrow0.1 hrow0.2.1 hrow0.2.2).mono fun e W' ⟨he, bel⟩ => ?_
  subst he
  exact ⟨_, rfl, _, _, _, [], _, [], hW', trodAll_mk1 (shut_bool Try.underlying4 _), (trodAll_cons_mk (Below.trod Try.laidOut (by kernel_rfl) (of_decide_eq_true (by kernel_rfl)) k0 bel lt0) trodAll_mk0), rfl, bel.frame _, fun h => by cases h⟩

theorem radarBlames_holds : Rows.RadarBlamesSaid :=
  OpenClaim.holds_of_wide 12 Try.f12 rfl rfl rfl rfl rfl rfl rfl ⟨rfl, rfl, rfl, rfl, rfl⟩ rfl rfl rfl rfl rfl (by kernel_rfl) Try.func12 (by kernel_rfl)
    (of_decide_eq_true (by kernel_rfl)) (by unfold Func.isWrapper; first | (rw [if_pos (by decide +kernel)]; kernel_rfl) | (rw [if_neg (by decide +kernel)]; exact ⟨rfl, rfl⟩))
    (fun os started H enc _ => radarBlames_lifted os started H enc)
#print axioms radarBlames_holds

end Go.Proofs.Ytpmafnifgegfbaa
