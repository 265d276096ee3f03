/- The search for whole turns: its function. -/
import Derived.Test.YtpmafnifgegfbaaX
import Derived.Test.YtpmafnifgegfbaaLS
namespace Go.Proofs.Ytpmafnifgegfbaa
open Go.RowKit Go.Shelf Go.Deep

open Go.ChangeMaps (setBlock)
theorem info_ints : (Try.prog.info? 24).map (fun i => (i.zero, i.size, i.bytes)) = some (some (.slice none 0 0), 1, 24) := by kernel_rfl
theorem info_lookp : (Try.prog.info? 120).map (fun i => (i.zero, i.size, i.bytes)) = some (some (.pointer none), 1, 8) := by kernel_rfl
def vRowO (ks : List (Option Int)) (v : Value) (W : World) : Prop := ∃ B c, v = .slice B ks.length c ∧ Row koL 1 W W.heap.size B ks
theorem vRowO_st {ks : List (Option Int)} : ∀ v W W', vRowO ks v W → newer W W' → vRowO ks v W' := fun _ _ _ ⟨B, c, h1, h2⟩ hb => ⟨B, c, h1, (h2.below hb).more hb.size⟩
def vAtO (y : Sm) (ks : List (Option Int)) (b : Nat) (v : Value) (W : World) : Prop := ∃ lb, v = .tuple #[ptV lb, .bool (okS y.s ks)] ∧ (okS y.s ks = true → ∃ ms A c, LookOk y ks b lb ms A c W)
theorem vAtO_st {y : Sm} {ks : List (Option Int)} {b : Nat} : ∀ v W W', vAtO y ks b v W → newer W W' → vAtO y ks b v W' := fun _ _ _ ⟨lb, h1, h2⟩ hb => ⟨lb, h1, fun ho => let ⟨ms, A, c, h3⟩ := h2 ho; ⟨ms, A, c, h3.next hb⟩⟩
def vLookO (y : Sm) (ks : List (Option Int)) (b : Nat) (v : Value) (W : World) : Prop := ∃ lb, v = ptV lb ∧ (okS y.s ks = true → ∃ ms A c, LookOk y ks b lb ms A c W)
theorem vLookO_st {y : Sm} {ks : List (Option Int)} {b : Nat} : ∀ v W W', vLookO y ks b v W → newer W W' → vLookO y ks b v W' := fun _ _ _ ⟨lb, h1, h2⟩ hb => ⟨lb, h1, fun ho => let ⟨ms, A, c, h3⟩ := h2 ho; ⟨ms, A, c, h3.next hb⟩⟩
/-- A list of turns made since. -/
def vTd (H : Nat) (L : List Int) (v : Value) (W : World) : Prop := ∃ B d, v = .slice B L.length d ∧ W.ownsRow H 3 1 (.slice B L.length d) L.length (L.map vi)
def vTs (H : Nat) (L : List Int) (v : Value) (W : World) : Prop := ∃ nb B d, v = .slice (some ⟨nb, 0, none⟩) 1 1 ∧ H ≤ nb ∧ Whole W nb 24 #[.slice B L.length d] ∧ W.ownsRow H 3 1 (.slice B L.length d) L.length (L.map vi)
def vA1 (b H m : Nat) (o1 : Option Nat) (ys : List Value) (L : List Int) (v : Value) (W : World) : Prop := ∃ g c' B d, v = .slice (some ⟨g, 0, none⟩) (m + 1) c' ∧ W.ownsRow b 24 1 (.slice (some ⟨g, 0, none⟩) (m + 1) c') (m + 1) (ys ++ [.slice B L.length d]) ∧ W.ownsRow H 3 1 (.slice B L.length d) L.length (L.map vi) ∧ (o1 = some g ∨ H ≤ g)
def vA2 (b H m : Nat) (o2 : Option Nat) (ys : List Value) (y : Value) (v : Value) (W : World) : Prop := ∃ g c', v = .slice (some ⟨g, 0, none⟩) (m + 1) c' ∧ W.ownsRow b 120 1 (.slice (some ⟨g, 0, none⟩) (m + 1) c') (m + 1) (ys ++ [y]) ∧ (o2 = some g ∨ H ≤ g)
section
variable {H b m : Nat} {o o1 o2 : Option Nat} {L : List Int} {ys : List Value} {y v : Value} {W W' : World}
theorem own_off {w w' : World} {base : Nat} {e : TypeId} {size n : Nat} {v : Value} {xs : List Value} (h : w.ownsRow base e size v n xs) (hg : w.grownBy w' o) (hne : ∀ q, v.ownBlock = some q → o ≠ some q) : w'.ownsRow base e size v n xs := by
  rcases Option.eq_none_or_eq_some v.ownBlock with e1 | ⟨q, e1⟩
  · exact h.kept hg (.inl e1)
  · exact h.kept hg (.inr (fun e2 => hne q e1 (by rw [← e2, e1])))
theorem vTd_off (ho : ∀ q, o = some q → q < H) (h : vTd H L v W) (hg : W.grownBy W' o) : vTd H L v W' := by
  obtain ⟨B, d, h1, h2⟩ := h
  exact ⟨B, d, h1, own_off h2 hg fun q hq e => by have := own_ge h2 q hq; have := ho q e; omega⟩
theorem vTs_off (ho : ∀ q, o = some q → q < H) (h : vTs H L v W) (hg : W.grownBy W' o) : vTs H L v W' := by
  obtain ⟨nb, B, d, h1, h2, h3, h4⟩ := h
  exact ⟨nb, B, d, h1, h2, h3.grown hg (fun e => by have := ho nb e.symm; omega), own_off h4 hg fun q hq e => by have := own_ge h4 q hq; have := ho q e; omega⟩
theorem vA1_off (ho : ∀ q, o = some q → q < H) (hne : ∀ q, o1 = some q → o ≠ some q) (h : vA1 b H m o1 ys L v W) (hg : W.grownBy W' o) : vA1 b H m o1 ys L v W' := by
  obtain ⟨g, c', B, d, h1, h2, h3, h4⟩ := h
  refine ⟨g, c', B, d, h1, own_off h2 hg fun q hq e => ?_, own_off h3 hg fun q hq e => by have := own_ge h3 q hq; have := ho q e; omega, h4⟩
  have e3 : g = q := by simpa [Value.ownBlock] using hq
  rcases h4 with h4 | h4
  · exact hne q (by rw [← e3]; exact h4) e
  · have := ho q e; omega
theorem vA2_off (ho : ∀ q, o = some q → q < H) (hne : ∀ q, o2 = some q → o ≠ some q) (h : vA2 b H m o2 ys y v W) (hg : W.grownBy W' o) : vA2 b H m o2 ys y v W' := by
  obtain ⟨g, c', h1, h2, h4⟩ := h
  refine ⟨g, c', h1, own_off h2 hg fun q hq e => ?_, h4⟩
  have e3 : g = q := by simpa [Value.ownBlock] using hq
  rcases h4 with h4 | h4
  · exact hne q (by rw [← e3]; exact h4) e
  · have := ho q e; omega
theorem vOne_off {t : TypeId} {cs : Array Value} (ho : ∀ q, o = some q → q < H) (h : vOne H t cs v W) (hg : W.grownBy W' o) : vOne H t cs v W' := vOne_grown ho v W W' h hg
end
/-- What the appends hold, stage by stage. -/
structure ApF (b : Nat) (o1 o2 : Option Nat) (v1 v2 : Value) (m1 m2 : Nat) (y1 y2 : List Value) (w : World) (s : Nat) (W : World) : Prop where
  gr : Grown2 w W o1 o2
  r1 : s = 0 → W.ownsRow b 24 1 v1 m1 y1
  r2 : s ≤ 1 → W.ownsRow b 120 1 v2 m2 y2
theorem ApF.next {b : Nat} {o1 o2 : Option Nat} {v1 v2 : Value} {m1 m2 s : Nat} {y1 y2 : List Value} {w W W' : World} (h : ApF b o1 o2 v1 v2 m1 m2 y1 y2 w s W) (hb : newer W W') : ApF b o1 o2 v1 v2 m1 m2 y1 y2 w s W' := ⟨h.gr.next hb, fun e => own_below (h.r1 e) hb, fun e => own_below (h.r2 e) hb⟩
/-- Turns of the tools ahead of one are known, the others free. -/
structure KsOk (T : FP) (ks : List (Option Int)) (tool : Nat) : Prop where
  ln : ks.length = T.y.s.tools.length
  fr : ∀ j, tool ≤ j → ks.getD j none = none
  bd : ∀ o ∈ ks, ∀ k, o = some k → -1500 ≤ k ∧ k ≤ 1500
  kn : ∀ (j : Nat) (t : Tl), j < tool → T.y.s.tools[j]? = some t → t.turn ≠ 0 → ∃ v, ks[j]? = some (some v)
def FindC (T : FP) (r : Nat) : Prop := ∀ (tool : Nat) (ks : List (Option Int)) (S : List (List (Option Int))) (xs : List Ln) (ls : List Nat) (A1 : Option Addr) (c1 : Nat) (A2 : Option Addr) (c2 : Nat) (W : World),
  tool + r = T.y.s.tools.length → KsOk T ks tool → FdM T ks S xs ls A1 c1 A2 c2 W →
  Calls Try.prog 131 (#[vi tool] ++ fpC T) W fun e W' => (∃ v, e = .returned v) ∧ ∃ xs' ls' A1' c1' A2' c2', FdM T ks (S ++ outT T.y.s r tool ks) xs' ls' A1' c1' A2' c2' W' ∧ MovF T (own1 A1 xs.length c1) (own1 A2 ls.length c2) W W' ∧
    LinkO (own1 A1 xs.length c1) (own1 A1' xs'.length c1') W ∧ LinkO (own1 A2 ls.length c2) (own1 A2' ls'.length c2') W
theorem turn_range {lo hi rd off T : Int} (hT : 2 ≤ T) (h1 : -180 ≤ lo) (h2 : lo ≤ hi) (h3 : hi ≤ 180) (h4 : -1000 ≤ rd ∧ rd ≤ 1000) (h5 : 0 ≤ off ∧ off ≤ 230) : -1500 ≤ downN (lo - rd - off) T ∧ downN (hi - rd + off) T ≤ 1500 ∧ downN (lo - rd - off) T ≤ downN (hi - rd + off) T := by
  rw [down_is (by omega), down_is (by omega)]
  refine ⟨(Int.le_ediv_iff_mul_le (by omega)).2 (by omega), ?_, Int.ediv_le_ediv (by omega) (by omega)⟩
  have := (Int.ediv_lt_iff_lt_mul (a := hi - rd + off) (b := 1501) (c := T) (by omega)).2 (by omega)
  omega
theorem q_at {W : World} {q : Nat} {ks : List (Option Int)} (h : Whole W q 3 (ks.flatMap koL).toArray) {k : Nat} {o : Option Int} (hk : ks[k]? = some o) : W.cell? ⟨q, k, none⟩ = some (vi (koN o)) := by
  have hr : Row koL 1 W W.heap.size (some ⟨q, 0, none⟩) ks := row_of_whole (enc := koL) (s := 1) (fun _ => rfl) h rfl
  obtain ⟨b, off, e, _, hc⟩ := rowO hr hk
  injection e with e
  injection e with e1 e2
  rw [← e1, ← e2, Nat.zero_add] at hc
  exact hc
theorem frto_nil (a : Int) : frtoL a (a - 1) = [] := by unfold frtoL; rw [show (a - 1 - a + 1).toNat = 0 by omega]; rfl
theorem frto_snoc {a k : Int} (h : a ≤ k) : frtoL a k = frtoL a (k - 1) ++ [k] := by
  have h1 := intL_cut (a := a) (b := k) (c := k) h (by omega)
  rw [h1]
  congr 1
  unfold frtoL
  rw [show (k - k + 1).toNat = 1 by omega]
  simp
set_option maxRecDepth 100000 in
set_option maxHeartbeats 4000000 in
theorem find_step (T : FP) (hT : FpOk T) (r : Nat) (IH : ∀ r', r = r' + 1 → FindC T r') : FindC T r := by
  intro tool ks S xs ls A1 c1 A2 c2 we htr hks hm
  have HIH := Lib.hid IH
  have HM := Lib.hid hm
  have HK := Lib.hid (And.intro htr hks)
  have HS := Lib.hid hT.hs
  have s0 := hm.sb.at 0 (v := .slice T.y.sa T.y.s.spots.length T.y.sc) rfl
  have s1 := hm.sb.at 1 (v := vi T.y.s.strain) rfl
  have s2 := hm.sb.at 2 (v := .slice T.y.ta T.y.s.tools.length T.y.tc) rfl
  have s3 := hm.sb.at 3 (v := vi T.y.s.day) rfl
  have s4 := hm.sb.at 4 (v := .slice T.y.ra T.y.s.reads.length T.y.rc) rfl
  have b0 := hm.tb.at 0 (v := .slice (some ⟨T.q, 0, none⟩) ks.length ks.length) rfl
  have hn8 := hT.hs.few
  have hrow : Row koL 1 we we.heap.size (some ⟨T.q, 0, none⟩) ks := row_of_whole (enc := koL) (s := 1) (fun _ => rfl) hm.q rfl
  have HCL := Lib.hid (fun W (hG : newer we W) => clone3_any (enc := koL) (fun _ => rfl) ks (some ⟨T.q, 0, none⟩) ks.length W (by rw [hks.ln]; omega) ((hrow.below hG).more hG.size))
  have HAT := Lib.hid (fun B c W (hG : newer we W) (hr : Row koL 1 W W.heap.size B ks) => at_any T.y ks B c W (((hm.sm.same (fun k hk => hG.block k (by have := hm.sb.lt; have := hT.o1; omega)))).ok (by have := hm.sb.lt; have := hT.o1; have := hG.size; omega)) hT.hs hr hks.ln (fun o ho k hk => by have := hks.bd o ho k hk; omega))
  obtain ⟨Z, hZ⟩ : ∃ Z, Z = outT T.y.s r tool ks := ⟨_, rfl⟩
  rw [← hZ]
  have HZ := Lib.hid hZ
  clear IH hm htr hks hrow hn8 hZ
  simp only [fpC, List.append_toArray, List.cons_append, List.nil_append]
  go_enter Try.func131, Try.ntmps131
  go_upto_region 0 with fail
  refine wp_words (by kernel_rfl) (region_told 8 (by kernel_rfl) (by kernel_rfl) (fun W => Below we.heap.size we W) newer (pickD [vIs (smV T.y), vIs (.slice (some ⟨T.q, 0, none⟩) ks.length ks.length), vRowO ks, vAtO T.y ks we.heap.size, vAtO T.y ks we.heap.size, vLookO T.y ks we.heap.size, vIs (.bool (okS T.y.s ks)), vLookO T.y ks we.heap.size]) (fun h k => newer_trans h k) (pickD_stable _ ⟨vIs_st, vIs_st, vRowO_st, vAtO_st, vAtO_st, vLookO_st, vIs_st, vLookO_st, trivial⟩) (Below.refl _ we).drew (Below.refl _ _) ?_ ?_)
  · refine ⟨?_, ?_, ?_, ?_, ?_, ?_, ?_, ?_, trivial⟩
    · intro a W hG hR hO hp
      have h1 := hO.slot 1 (by kernel_rfl)
      have c0 := keep_cell s0 hG
      have c1 := keep_cell s1 hG
      have c2 := keep_cell s2 hG
      have c3 := keep_cell s3 hG
      have c4 := keep_cell s4 hG
      refine kY (v := smV T.y) hG rfl ?_
      simp [slotOf] at h1
      simp [execOp, go_sem, h1, c0, c1, c2, c3, c4]
    · intro a W hG hR hO hp
      have h2 := hO.slot 2 (by kernel_rfl)
      have c0 := keep_cell b0 hG
      refine kY (v := .slice (some ⟨T.q, 0, none⟩) ks.length ks.length) hG rfl ?_
      simp [slotOf] at h2
      simp [execOp, go_sem, h2, c0]
    · intro a W hG hR hO hp
      have h18 : slotOf a 18 = .slice (some ⟨T.q, 0, none⟩) ks.length ks.length := hp.1
      skip
      refine wp_enters (f := 113) (args := #[.slice (some ⟨T.q, 0, none⟩) ks.length ks.length]) ?_ ((HCL.out W hG).mono ?_)
      · simp [slotOf] at h18
        simp [go_sem, h18]
      · rintro e w' ⟨B, c, rfl, h1, h2⟩
        exact ⟨_, rfl, _, rfl, ⟨B, c, rfl, row_of_own (by omega) (fun _ => rfl) h1⟩, h2, below_next hG h2⟩
    · intro a W hG hR hO hp
      have h17 : slotOf a 17 = smV T.y := hp.1
      have h19 := hp.2.1
      obtain ⟨B, c, h19, hrow⟩ := h19
      refine wp_enters (f := 61) (args := #[smV T.y, .slice B ks.length c]) ?_ ((HAT.out B c W hG hrow).mono ?_)
      · simp [slotOf] at h17 h19
        simp [go_sem, h17, h19]
      · rintro e w' ⟨lb, rfl, h1, h2⟩
        exact ⟨_, rfl, _, rfl, ⟨lb, rfl, fun ho => let ⟨ms, A, c, h3⟩ := h2 ho; ⟨ms, A, c, h3.low hG.size⟩⟩, h1, below_next hG h1⟩
    · intro a W hG hR hO hp
      have h20 := hp.1
      obtain ⟨lb, h20, hl⟩ := h20
      refine wp_yields (v := .tuple #[ptV lb, .bool (okS T.y.s ks)]) ?_ ⟨_, rfl, ⟨lb, rfl, hl⟩, Below.refl _ _, hG⟩
      simp [slotOf] at h20
      simp [execOp, go_sem, h20]
    · intro a W hG hR hO hp
      have h16 := hp.1
      obtain ⟨lb, h16, hl⟩ := h16
      refine wp_yields (v := ptV lb) ?_ ⟨_, rfl, ⟨lb, rfl, hl⟩, Below.refl _ _, hG⟩
      simp [slotOf] at h16
      simp [execOp, go_sem, h16]
    · intro a W hG hR hO hp
      have h16 := hp.1
      obtain ⟨lb, h16, hl⟩ := h16
      refine wp_yields (v := .bool (okS T.y.s ks)) ?_ ⟨_, rfl, rfl, Below.refl _ _, hG⟩
      simp [slotOf] at h16
      simp [execOp, go_sem, h16]
    · intro a W hG hR hO hp
      have h21 := hp.1
      obtain ⟨lb, h21, hl⟩ := h21
      refine wp_yields (v := ptV lb) ?_ ⟨_, rfl, ⟨lb, rfl, hl⟩, Below.refl _ _, hG⟩
      simp [slotOf] at h21
      simp [execOp, go_sem, h21]
  · intro w1 hG hR
    rintro _ rfl _ rfl _ - _ - _ - _ ⟨x1, rfl, -⟩ _ rfl _ ⟨xb, rfl, hlk⟩
    change wpList _ _ _ _ _ _
    simp only [Act.put, List.setIfInBounds_toArray, List.set_cons_zero, List.set_cons_succ, List.drop_succ_cons, List.drop_zero]
    clear s0 s1 s2 s3 s4 b0 hR
    have HM1 := Lib.hid (HM.out.next hT hG)
    have HN1 := Lib.hid hG
    have HLK := Lib.hid hlk
    clear hG hlk
    obtain ⟨ok, hok⟩ : ∃ b, b = okS T.y.s ks := ⟨_, rfl⟩
    rw [← hok] at HLK ⊢
    have HO := Lib.hid hok
    clear hok HCL HAT
    cases ok with
    | false =>
      go_wp2_with fail
      refine bodyPost_ret (results_none rfl _ _ _) rfl ⟨⟨_, rfl⟩, xs, ls, A1, c1, A2, c2, ?_, MovF.ofNewer T _ _ HN1.out, LinkO.refl _ _, LinkO.refl _ _⟩
      rw [HZ.out, out_nil HO.out.symm, List.append_nil]
      exact HM1.out
    | true =>
      have f0 := HM1.out.fb.at 0 (v := .bool (decide (S.length ≤ 60))) rfl
      have s2 := HM1.out.sb.at 2 (v := .slice T.y.ta T.y.s.tools.length T.y.tc) rfl
      by_cases hS : S.length ≤ 60
      case neg =>
        rw [decide_eq_false hS] at f0
        have HOV := Lib.hid (HM1.out.over (by omega) Z)
        clear hS
        go_wp2_with fail
        exact bodyPost_ret (results_none rfl _ _ _) rfl ⟨⟨_, rfl⟩, xs, ls, A1, c1, A2, c2, HOV.out, MovF.ofNewer T _ _ HN1.out, LinkO.refl _ _, LinkO.refl _ _⟩
      case pos =>
        rw [decide_eq_true hS] at f0
        have HSL := Lib.hid hS
        clear hS
        cases r with
        | zero =>
          obtain rfl : tool = T.y.s.tools.length := by have := HK.out.1; omega
          have HOU := Lib.hid (show Z = [ks] by rw [HZ.out, outT, if_pos HO.out.symm])
          have l0 := HM1.out.lb.at 0 (v := .slice A1 xs.length c1) rfl
          have hxl : xs.length = S.length := by rw [HM1.out.len, List.take_of_length_le HSL.out]
          have ff := HM1.out.fb.free 0
          by_cases hlt : S.length < 60
          case neg =>
            have hlx : ¬ (xs.length : Int) < 60 := by omega
            have HF := Lib.hid (HM1.out.full hT (by have := HSL.out; omega) ks)
            have HMV := Lib.hid ((MovF.ofNewer T (own1 A1 xs.length c1) (own1 A2 ls.length c2) HN1.out).trans (LinkO.refl _ _) (LinkO.refl _ _) (MovF.ofGrown (d := T.fb) (grown_set (p := ⟨T.fb, 0, none⟩) (grown_refl w1 _) (.inl rfl) (.bool false)) (.inr (.inl rfl))))
            have f1 := HF.out.fb.at 0 (v := .bool (decide ((S ++ [ks]).length ≤ 60))) rfl
            rw [decide_eq_false (by rw [List.length_append, List.length_singleton]; omega)] at f1
            clear hxl
            go_wp2_with fail
            exact bodyPost_ret (results_none rfl _ _ _) rfl ⟨⟨_, rfl⟩, xs, ls, A1, c1, A2, c2, by rw [HOU.out]; exact HF.out, HMV.out, LinkO.refl _ _, LinkO.refl _ _⟩
          case pos =>
            have hlx : (xs.length : Int) < 60 := by omega
            have hsc := setCell_same f0
            have HLT := Lib.hid hlt
            have HXL := Lib.hid hxl
            clear hxl hlt
            have hgb1 : ∀ q, own1 A1 xs.length c1 = some q → T.base ≤ q ∧ q < w1.heap.size := fun q hq => ⟨own_ge HM1.out.r1 q hq, own_lt HM1.out.r1 q hq⟩
            have hgb2 : ∀ q, own1 A2 ls.length c2 = some q → T.base ≤ q ∧ q < w1.heap.size := fun q hq => ⟨own_ge HM1.out.r2 q hq, own_lt HM1.out.r2 q hq⟩
            have HL1 := Lib.hid (fun q hq => (hgb1 q hq).2)
            have HL2 := Lib.hid (fun q hq => (hgb2 q hq).2)
            have HNE : Hid ((∀ q, own1 A1 xs.length c1 = some q → own1 A2 ls.length c2 ≠ some q) ∧ ∀ q, own1 A2 ls.length c2 = some q → own1 A1 xs.length c1 ≠ some q) := Lib.hid ⟨own_own_ne HM1.out.r1 HM1.out.r2 (by decide), own_own_ne HM1.out.r2 HM1.out.r1 (by decide)⟩
            have hlow : ∀ (W : World) (k : Nat) (t : TypeId) (cs : Array Value), k < T.base → Whole w1 k t cs → Grown2 w1 W (own1 A1 xs.length c1) (own1 A2 ls.length c2) → Whole W k t cs := fun W k t cs hk hw hg => hw.same (hg.block k hw.lt (fun e => by have := (hgb1 k e.symm).1; omega) (fun e => by have := (hgb2 k e.symm).1; omega))
            have o1 := hT.o1; have o2 := hT.o2; have o3 := hT.o3; have o4 := hT.o4; have o5 := hT.o5; have o6 := hT.o6; have o7 := hT.o7; have o8 := hT.o8
            have HLB := Lib.hid (fun W (h : Grown2 w1 W (own1 A1 xs.length c1) (own1 A2 ls.length c2)) => hlow W _ _ _ (by omega) HM1.out.lb h)
            have HKB := Lib.hid (fun W (h : Grown2 w1 W (own1 A1 xs.length c1) (own1 A2 ls.length c2)) => hlow W _ _ _ (by omega) HM1.out.kb h)
            have HSB := Lib.hid (fun W (h : Grown2 w1 W (own1 A1 xs.length c1) (own1 A2 ls.length c2)) => hlow W _ _ _ (by omega) HM1.out.sb h)
            have HTB := Lib.hid (fun W (h : Grown2 w1 W (own1 A1 xs.length c1) (own1 A2 ls.length c2)) => hlow W _ _ _ (by omega) HM1.out.tb h)
            have HTU : Hid (∀ W, Grown2 w1 W (own1 A1 xs.length c1) (own1 A2 ls.length c2) → Calls Try.prog 132 #[smV T.y, .slice (some ⟨T.q, 0, none⟩) ks.length ks.length] W fun e w' => (∃ B d, e = .returned (.slice B (turL T.y.s.tools ks).length d) ∧ w'.ownsRow W.heap.size 3 1 (.slice B (turL T.y.s.tools ks).length d) (turL T.y.s.tools ks).length ((turL T.y.s.tools ks).map vi)) ∧ newer W w') := Lib.hid (fun W h => by
              have hq := hlow W _ _ _ (by omega) HM1.out.q h
              have hle := HM1.out.le
              have hsz := h.size
              have hsm : SmOk T.y W := (HM1.out.sm.same fun k hk => h.block k (by have := HM1.out.sb.lt; omega) (fun e => by have := (hgb1 k e.symm).1; omega) (fun e => by have := (hgb2 k e.symm).1; omega)).ok (by omega)
              exact turned_any T.y ks (some ⟨T.q, 0, none⟩) ks.length W hsm HS.out.few HK.out.2.ln (row_of_whole (enc := koL) (s := 1) (fun _ => rfl) hq rfl) fun j t hj ht => HK.out.2.kn j t (List.getElem?_eq_some_iff.1 hj).1 hj ht)
            have HLL := Lib.hid (show ls.length = S.length by rw [HM1.out.ll, List.take_of_length_le HSL.out])
            have HFR := Lib.hid (And.intro (HM1.out.lb.free 0) (HM1.out.kb.free 0))
            clear hgb1 hgb2 hlow o1 o2 o3 o4 o5 o6 o7 o8
            go_upto_region 5 with fail
            refine wp_words (by kernel_rfl) (region_steps 10 5 9 (by kernel_rfl) (by kernel_rfl) (by kernel_rfl) (by decide) (by decide) (by decide) (ApF T.base (own1 A1 xs.length c1) (own1 A2 ls.length c2) (.slice A1 xs.length c1) (.slice A2 ls.length c2) xs.length ls.length (xs.flatMap lnL) (ls.map ptV) w1) (fun W W' => W.grownBy W' (own1 A1 xs.length c1)) (fun W W' => W.grownBy W' (own1 A2 ls.length c2)) (pickD [vIs (.slice A1 xs.length c1), vIs (smV T.y), vIs (.slice (some ⟨T.q, 0, none⟩) ks.length ks.length), vTd w1.heap.size (turL T.y.s.tools ks), vTs w1.heap.size (turL T.y.s.tools ks), vA1 T.base w1.heap.size xs.length (own1 A1 xs.length c1) (xs.flatMap lnL) (turL T.y.s.tools ks), vIs (.slice A2 ls.length c2), vIs (ptV xb), vOne w1.heap.size 120 #[ptV xb], vA2 T.base w1.heap.size ls.length (own1 A2 ls.length c2) (ls.map ptV) (ptV xb)]) ?_ (fun sg W W' h hb => h.next hb) ?_ ?_ ⟨(Grown2.refl _ _ _).next (newer_drew_ _), fun _ => own_below HM1.out.r1 (newer_drew_ _), fun _ => own_below HM1.out.r2 (newer_drew_ _)⟩ ⟨?_, ?_, ?_, ?_, ?_, ?_, ?_, ?_, ?_, ?_, trivial⟩ ?_)
            · intro i v W W' hD hR
              match i, hD with
              | 0, h => exact h
              | 1, h => exact h
              | 2, h => exact h
              | 3, h => exact (let ⟨B, d, h1, h2⟩ := h; ⟨B, d, h1, own_below h2 hR⟩)
              | 4, h => exact (let ⟨nb, B, d, h1, h2, h3, h4⟩ := h; ⟨nb, B, d, h1, h2, h3.below hR h3.lt, own_below h4 hR⟩)
              | 5, h => exact (let ⟨g, c, B, d, h1, h2, h3, h4⟩ := h; ⟨g, c, B, d, h1, own_below h2 hR, own_below h3 hR, h4⟩)
              | 6, h => exact h
              | 7, h => exact h
              | 8, h => exact vOne_st _ _ _ h hR
              | 9, h => exact (let ⟨g, c, h1, h2, h4⟩ := h; ⟨g, c, h1, own_below h2 hR, h4⟩)
              | (_ + 10), _ => trivial
            · intro i v W W' hi hD hR
              match i, hD with
              | 0, h => exact h
              | 1, h => exact h
              | 2, h => exact h
              | 3, h => exact vTd_off HL1.out h hR
              | 4, h => exact vTs_off HL1.out h hR
              | 5, h => exact absurd rfl hi
              | 6, h => exact h
              | 7, h => exact h
              | 8, h => exact vOne_off HL1.out h hR
              | 9, h => exact vA2_off HL1.out HNE.out.2 h hR
              | (_ + 10), _ => trivial
            · intro i v W W' hi hD hR
              match i, hD with
              | 0, h => exact h
              | 1, h => exact h
              | 2, h => exact h
              | 3, h => exact vTd_off HL2.out h hR
              | 4, h => exact vTs_off HL2.out h hR
              | 5, h => exact vA1_off HL2.out HNE.out.1 h hR
              | 6, h => exact h
              | 7, h => exact h
              | 8, h => exact vOne_off HL2.out h hR
              | 9, h => exact absurd rfl hi
              | (_ + 10), _ => trivial
            · intro a W hG hO hp
              have h4 := hO.slot 4 (by kernel_rfl)
              have c0 := (HLB.out W hG.gr).at 0 (v := .slice A1 xs.length c1) rfl
              refine wp_yields (v := .slice A1 xs.length c1) ?_ ⟨_, rfl, rfl, Below.refl _ _⟩
              simp [slotOf] at h4
              simp [execOp, go_sem, h4, c0]
            · intro s9 a W hG hO hp
              have h1 := hO.slot 1 (by kernel_rfl)
              have c0 := (HSB.out W hG.gr).at 0 (v := .slice T.y.sa T.y.s.spots.length T.y.sc) rfl
              have c1 := (HSB.out W hG.gr).at 1 (v := vi T.y.s.strain) rfl
              have c2 := (HSB.out W hG.gr).at 2 (v := .slice T.y.ta T.y.s.tools.length T.y.tc) rfl
              have c3 := (HSB.out W hG.gr).at 3 (v := vi T.y.s.day) rfl
              have c4 := (HSB.out W hG.gr).at 4 (v := .slice T.y.ra T.y.s.reads.length T.y.rc) rfl
              refine wp_yields (v := smV T.y) ?_ ⟨_, rfl, rfl, Below.refl _ _⟩
              simp [slotOf] at h1
              simp [execOp, go_sem, h1, c0, c1, c2, c3, c4]
            · intro s9 a W hG hO hp
              have h2 := hO.slot 2 (by kernel_rfl)
              have c0 := (HTB.out W hG.gr).at 0 (v := .slice (some ⟨T.q, 0, none⟩) ks.length ks.length) rfl
              refine wp_yields (v := .slice (some ⟨T.q, 0, none⟩) ks.length ks.length) ?_ ⟨_, rfl, rfl, Below.refl _ _⟩
              simp [slotOf] at h2
              simp [execOp, go_sem, h2, c0]
            · intro a W hG hO hp
              have h39 : slotOf a 39 = smV T.y := hp.1
              have h40 : slotOf a 40 = .slice (some ⟨T.q, 0, none⟩) ks.length ks.length := hp.2.1
              refine wp_enters (f := 132) (args := #[smV T.y, .slice (some ⟨T.q, 0, none⟩) ks.length ks.length]) ?_ ((HTU.out W hG.gr).mono ?_)
              · simp [slotOf] at h39 h40
                simp [go_sem, h39, h40]
              · rintro e w' ⟨⟨B, d, rfl, h1⟩, h2⟩
                exact ⟨_, rfl, _, rfl, ⟨B, d, rfl, own_more h1 hG.gr.size⟩, h2⟩
            · intro a W hG hO hp
              obtain ⟨B, d, h41, h1⟩ := hp.1
              refine wp_makes (v := .slice (some ⟨W.heap.size, 0, none⟩) 1 1) (W' := W.alloc (.cells #[.slice B (turL T.y.s.tools ks).length d] 24)) ?_ ⟨_, rfl, ⟨_, B, d, rfl, hG.gr.size, Whole.made _ _ _, own_below h1 (newer_allocH _ _)⟩, newer_allocH _ _⟩
              simp [slotOf] at h41
              simp [execOp, go_sem, h41]
            · intro a W hG hO hp
              have h38 : slotOf a 38 = .slice A1 xs.length c1 := hp.1
              obtain ⟨nb, B, d, h42, hnb, hW, hrow⟩ := hp.2.1
              obtain ⟨i0, hi, hz0, hz1, hz2⟩ := info_parts info_ints
              refine wp_append_one (.tmp 38) (.tmp 42) 33 rfl T.base 24 i0 (.slice none 0 0) 24 Try.underlying33 hi hz0 hz1 hz2 rfl A1 xs.length c1 (xs.flatMap lnL) ((eval_slot a 38).trans h38) (hG.r1 rfl) ⟨nb, 0, none⟩ 1 (.slice B (turL T.y.s.tools ks).length d) ((eval_slot a 42).trans h42) (hW.at 0 rfl) rfl (by have := HXL.out; have := HLT.out; unfold maxLen; omega) (by have := HXL.out; have := HLT.out; omega) (Nat.le_trans HM1.out.le hG.gr.size) ?_
              intro g c' W' hown hon0
              have hon : Onto1 A1 c1 g c' W W' := hon0
              have hgr : W.grownBy W' (own1 A1 xs.length c1) := hon.grown
              refine ⟨_, rfl, ⟨g, c', B, d, rfl, hown, own_off hrow hgr fun q hq e => ?_, ?_⟩, hgr, hG.gr.one hgr, fun e => absurd e (by decide), fun _ => own_off (hG.r2 (by decide)) hgr fun q hq e => HNE.out.1 q e hq⟩
              · have := own_ge hrow q hq
                have := HL1.out q e
                omega
              · rcases hon with ⟨h1, _, _⟩ | ⟨h1, _⟩
                · exact .inl (by rw [h1]; rfl)
                · exact .inr (Nat.le_trans hG.gr.size h1)
            · intro s9 a W hs hG hO hp
              have h5 := hO.slot 5 (by kernel_rfl)
              have c0 := (HKB.out W hG.gr).at 0 (v := .slice A2 ls.length c2) rfl
              refine wp_yields (v := .slice A2 ls.length c2) ?_ ⟨_, rfl, rfl, Below.refl _ _⟩
              simp [slotOf] at h5
              simp [execOp, go_sem, h5, c0]
            · intro s9 a W hG hO hp
              have h8 := hO.slot 8 (by kernel_rfl)
              refine wp_yields (v := ptV xb) ?_ ⟨_, rfl, rfl, Below.refl _ _⟩
              simp [slotOf] at h8
              simp [execOp, go_sem, h8]
            · intro s9 a W hs hG hO hp
              have h45 : slotOf a 45 = ptV xb := hp.1
              refine wp_makes (v := .slice (some ⟨W.heap.size, 0, none⟩) 1 1) (W' := W.alloc (.cells #[ptV xb] 120)) ?_ ⟨_, rfl, ⟨_, rfl, hG.gr.size, Whole.made _ _ _⟩, newer_allocH _ _⟩
              simp [slotOf] at h45
              simp [execOp, go_sem, h45]
            · intro a W hG hO hp
              have h44 : slotOf a 44 = .slice A2 ls.length c2 := hp.1
              obtain ⟨nb, h46, hnb, hW⟩ := hp.2.1
              obtain ⟨i0, hi, hz0, hz1, hz2⟩ := info_parts info_lookp
              refine wp_append_one (.tmp 44) (.tmp 46) 138 rfl T.base 120 i0 (.pointer none) 8 Try.underlying138 hi hz0 hz1 hz2 rfl A2 ls.length c2 (ls.map ptV) ((eval_slot a 44).trans h44) (hG.r2 (Nat.le_refl _)) ⟨nb, 0, none⟩ 1 (ptV xb) ((eval_slot a 46).trans h46) (hW.at 0 rfl) rfl (by have := HLL.out; have := HLT.out; unfold maxLen; omega) (by have := HLL.out; have := HLT.out; omega) (Nat.le_trans HM1.out.le hG.gr.size) ?_
              intro g c' W' hown hon0
              have hon : Onto1 A2 c2 g c' W W' := hon0
              have hgr : W.grownBy W' (own1 A2 ls.length c2) := hon.grown
              refine ⟨_, rfl, ⟨g, c', rfl, hown, ?_⟩, hgr, hG.gr.two hgr, fun e => absurd e (by decide), fun e => absurd e (by decide)⟩
              rcases hon with ⟨h1, _, _⟩ | ⟨h1, _⟩
              · exact .inl (by rw [h1]; rfl)
              · exact .inr (Nat.le_trans hG.gr.size h1)
            · intro W hG
              rintro _ rfl _ rfl _ rfl _ ⟨B1, d1, rfl, -⟩ _ ⟨nb1, B2, d2, rfl, -⟩ _ ⟨g1, e1, B, d, rfl, hr1, hrx, hl1⟩ _ rfl _ rfl _ ⟨nb2, rfl, -⟩ _ ⟨g2, e2, rfl, hr2, hl2⟩
              change wpList _ _ _ _ _ _
              simp only [Act.put, List.setIfInBounds_toArray, List.set_cons_zero, List.set_cons_succ, List.drop_succ_cons, List.drop_zero]
              have k1 := HLB.out W hG.gr
              have l0 := k1.at 0 (v := .slice A1 xs.length c1) rfl
              have lf := k1.free 0
              have k2 := (HKB.out W hG.gr).far (p := ⟨T.lb, 0, none⟩) (by show T.kb ≠ T.lb; have := hT.o3; omega) (.slice (some ⟨g1, 0, none⟩) (xs.length + 1) e1)
              have m0 := k2.at 0 (v := .slice A2 ls.length c2) rfl
              have mf := k2.free 0
              have HAD := Lib.hid (HM1.out.add hT HLT.out (x := ⟨turL T.y.s.tools ks, B, d⟩) (l := xb) rfl (own_more hrx HM1.out.le) (let ⟨ms, A, c, h3⟩ := HLK.out rfl; ⟨ms, A, c, h3.low HM.out.le⟩) hG.gr hr1 hr2)
              have HLI : Hid (LinkO (own1 A1 xs.length c1) (some g1) we ∧ LinkO (own1 A2 ls.length c2) (some g2) we) := Lib.hid ⟨fun q hq => by
                injection hq with hq
                rw [← hq]
                exact hl1.imp id (fun h => Nat.le_trans HN1.out.size h), fun q hq => by
                injection hq with hq
                rw [← hq]
                exact hl2.imp id (fun h => Nat.le_trans HN1.out.size h)⟩
              clear k1 k2 hG hrx hr1 hr2 hl1 hl2
              go_wp2_with fail
              exact bodyPost_ret (results_none rfl _ _ _) rfl ⟨⟨_, rfl⟩, xs ++ [⟨turL T.y.s.tools ks, B, d⟩], ls ++ [xb], some ⟨g1, 0, none⟩, e1, some ⟨g2, 0, none⟩, e2, by rw [HOU.out]; exact HAD.out.1, (MovF.ofNewer T _ _ HN1.out).trans (LinkO.refl _ _) (LinkO.refl _ _) HAD.out.2, HLI.out.1, HLI.out.2⟩
        | succ r =>
          have hlt : tool < T.y.s.tools.length := by have := HK.out.1; omega
          have hne : ((tool : Int) == T.y.s.tools.length) = false := by rw [beq_eq_false_iff_ne]; omega
          obtain ⟨t, ht⟩ : ∃ t, T.y.s.tools[tool]? = some t := ⟨_, List.getElem?_eq_getElem hlt⟩
          have hsb := HM1.out.sb.lt
          have hsok : SmOk T.y w1 := HM1.out.sm.ok (by have := hT.o1; omega)
          obtain ⟨bt, ot, et, hbt, t0, t1, t2, t3, t4, t5, t6⟩ := row7 hsok.tl ht
          have HT := Lib.hid (And.intro ht (HS.out.tool t (List.mem_of_getElem? ht)))
          rw [et] at s2
          clear hsb hsok et hbt ht
          go_upto_region 7 with fail
          have HW2 := Lib.hid (show newer w1 (w1.alloc (.cells (tlC t) 112)) ∧ Whole (w1.alloc (.cells (tlC t) 112)) w1.heap.size 112 (tlC t) from ⟨newer_allocH _ _, Whole.made _ _ _⟩)
          obtain ⟨b10, hb10⟩ : ∃ q, q = w1.heap.size := ⟨_, rfl⟩
          rw [← hb10] at HW2 ⊢
          have HB10 := Lib.hid (show T.base ≤ b10 by rw [hb10]; exact HM1.out.le)
          have HB11 := Lib.hid hb10
          refine genQ (fun X => newer w1 X ∧ Whole X b10 112 (tlC t)) HW2.out ?_
          clear HW2 hb10 t0 t1 t2 t3 t4 t5 t6 f0 s2 hne
          rintro w2 ⟨g1, g2⟩
          have z3 := g2.at 3 (v := vi t.turn) rfl
          have HN2 := Lib.hid g1
          have HZ2 := Lib.hid g2
          clear g1 g2
          have hn8 := HS.out.few
          have htw : IntKind.i64.wrap ((tool : Int) + 1) = ((tool + 1 : Nat) : Int) := IntWalk.i64_in _ (by omega)
          by_cases hT0 : t.turn = 0
          case pos =>
            rw [hT0] at z3
            have hm2 := HM1.out.next hT HN2.out
            have f6 := hm2.nb.at 0 (v := .func (.func 131) #[] (fpC T)) rfl
            have HRC := Lib.hid (HIH.out r rfl (tool + 1) ks S xs ls A1 c1 A2 c2 w2 (by have := HK.out.1; omega) ⟨HK.out.2.ln, fun j hj => HK.out.2.fr j (by omega), HK.out.2.bd, fun j t' hj ht' hne => by
              by_cases e : j = tool
              · rw [e, HT.out.1] at ht'
                injection ht' with ht'
                rw [← ht', hT0] at hne
                exact absurd rfl hne
              · exact HK.out.2.kn j t' (by omega) ht' hne⟩ hm2)
            have HZE := Lib.hid (show Z = outT T.y.s r (tool + 1) ks by
              rw [HZ.out, outT, if_pos HO.out.symm, HT.out.1]
              simp only [if_pos hT0])
            clear hm2
            simp only [fpC, List.append_toArray, List.cons_append, List.nil_append] at HRC f6
            go_wp2_with fail
            refine (HRC.out).mono ?_
            rintro e W' ⟨⟨v, rfl⟩, xs', ls', A1', c1', A2', c2', hm', hmv, hl1, hl2⟩
            have HE := Lib.hid (And.intro hm' (And.intro hmv (And.intro hl1 hl2)))
            clear hm' hmv hl1 hl2
            go_wp2_with fail
            have n12 := newer_trans HN1.out HN2.out
            exact bodyPost_ret (results_none rfl _ _ _) rfl ⟨⟨_, rfl⟩, xs', ls', A1', c1', A2', c2', by rw [HZE.out]; exact HE.out.1, (MovF.ofNewer T _ _ n12).trans (LinkO.refl _ _) (LinkO.refl _ _) HE.out.2.1, fun q hq => (HE.out.2.2.1 q hq).imp id (fun h => Nat.le_trans n12.size h), fun q hq => (HE.out.2.2.2 q hq).imp id (fun h => Nat.le_trans n12.size h)⟩
          case neg =>
            have hTb : ¬ (t.turn == 0) = true := by simpa using hT0
            have HT0 := Lib.hid hT0
            obtain ⟨ms, A, c, hlk⟩ := HLK.out rfl
            obtain ⟨sp, hsp⟩ : ∃ q : Nat, t.spot = q := ⟨t.spot.toNat, by have := HT.out.2.spot; omega⟩
            have hspl : sp < T.y.s.spots.length := by have := HT.out.2.spot; omega
            obtain ⟨mi, hmi⟩ : ∃ q, ms[sp]? = some q := ⟨_, List.getElem?_eq_getElem (by have := hlk.ln; omega)⟩
            have HSP := Lib.hid (And.intro hsp hspl)
            have hlk2 := hlk.next HN2.out
            obtain ⟨ka, nk, kc, hlw⟩ := hlk2.lk
            obtain ⟨ab, ao, ea, hab, a0⟩ := rowM hlk2.row hmi
            have HKM := Lib.hid (hlk2.mp sp mi hmi)
            have hn3 := newer_allocH w2 (.cells #[vi 0, vi 0] 130)
            have HX := Lib.hid (show newer w1 (w2.alloc (.cells #[vi 0, vi 0] 130)) ∧ Whole (w2.alloc (.cells #[vi 0, vi 0] 130)) b10 112 (tlC t) ∧ Whole (w2.alloc (.cells #[vi 0, vi 0] 130)) w2.heap.size 130 #[vi 0, vi 0] ∧ KMap mvV trV mi (kvL (aliveS T.y.s ks sp)) (w2.alloc (.cells #[vi 0, vi 0] 130)) ∧ Whole (w2.alloc (.cells #[vi 0, vi 0] 130)) xb 126 (lkC T.y ka nk kc (.slice (some ⟨ab, ao, none⟩) T.y.s.spots.length c)) ∧ (w2.alloc (.cells #[vi 0, vi 0] 130)).cell? ⟨ab, ao + sp, none⟩ = some (.map (some mi)) from ⟨newer_trans HN2.out hn3, HZ2.out.below hn3 HZ2.out.lt, Whole.made _ _ _, HKM.out.next hn3, by rw [← ea]; exact hlw.below hn3 hlw.lt, keep_cell a0 hn3⟩)
            have HB12 := Lib.hid (show b10 < w2.heap.size from HZ2.out.lt)
            go_upto_region 11 with fail
            obtain ⟨b11, hb11⟩ : ∃ q, q = w2.heap.size := ⟨_, rfl⟩
            rw [← hb11] at HX HB12 ⊢
            refine genQ (fun X => newer w1 X ∧ Whole X b10 112 (tlC t) ∧ Whole X b11 130 #[vi 0, vi 0] ∧ KMap mvV trV mi (kvL (aliveS T.y.s ks sp)) X ∧ Whole X xb 126 (lkC T.y ka nk kc (.slice (some ⟨ab, ao, none⟩) T.y.s.spots.length c)) ∧ X.cell? ⟨ab, ao + sp, none⟩ = some (.map (some mi))) HX.out ?_
            clear HX hb11 hn3 hlw ea hab a0 HKM hlk2 hmi hlk hsp z3
            rintro w3 ⟨g1, g2, g3, g4, g5, a0⟩
            have z0 := g2.at 0 (v := vi t.spot) rfl
            rw [HSP.out.1] at z0
            have l6 := g5.at 6 (v := .slice (some ⟨ab, ao, none⟩) T.y.s.spots.length c) rfl
            have hsl : (sp : Int) < T.y.s.spots.length := by omega
            have H3 := Lib.hid (And.intro g1 (And.intro g2 (And.intro g3 g4)))
            clear g1 g2 g3 g4 g5
            refine wp_words (by kernel_rfl) (region_told 8 (by kernel_rfl) (by kernel_rfl) (fun W => Below w3.heap.size w3 W) newer (pickD [vIs (.pointer (some ⟨xb, 0, none⟩)), vIs (.pointer (some ⟨xb, 0, none⟩)), vIs (.pointer (some ⟨xb, 6, none⟩)), vIs (.slice (some ⟨ab, ao, none⟩) T.y.s.spots.length c), vIs (.pointer (some ⟨b10, 0, none⟩)), vIs (.int .i64 sp), vIs (.pointer (some ⟨ab, ao + sp, none⟩)), vIs (.map (some mi))]) (fun h k => newer_trans h k) (pickD_stable _ ⟨vIs_st, vIs_st, vIs_st, vIs_st, vIs_st, vIs_st, vIs_st, vIs_st, trivial⟩) (Below.refl _ w3).drew (Below.refl _ _) ?_ ?_)
            · refine ⟨?_, ?_, ?_, ?_, ?_, ?_, ?_, ?_, trivial⟩
              · exact fun a W hG _ hO _ => kM 8 rfl (hO.slot 8 (by kernel_rfl)) rfl hG
              · intro a W hG hR hO hp
                have h60 : slotOf a 60 = .pointer (some ⟨xb, 0, none⟩) := hp.1
                refine kY (v := .pointer (some ⟨xb, 0, none⟩)) hG rfl ?_
                simp [slotOf] at h60
                simp [execOp, go_sem, h60]
              · intro a W hG hR hO hp
                have h61 : slotOf a 61 = .pointer (some ⟨xb, 0, none⟩) := hp.1
                refine kY (v := .pointer (some ⟨xb, 6, none⟩)) hG rfl ?_
                simp [slotOf] at h61
                simp [execOp, go_sem, h61]
              · intro a W hG hR hO hp
                have h62 : slotOf a 62 = .pointer (some ⟨xb, 6, none⟩) := hp.1
                have c0 := keep_cell l6 hG
                refine kY (v := .slice (some ⟨ab, ao, none⟩) T.y.s.spots.length c) hG rfl ?_
                simp [slotOf] at h62
                simp [execOp, go_sem, h62, c0]
              · intro a W hG hR hO hp
                have h10 := hO.slot 10 (by kernel_rfl)
                refine kY (v := .pointer (some ⟨b10, 0, none⟩)) hG rfl ?_
                simp [slotOf] at h10
                simp [execOp, go_sem, h10]
              · intro a W hG hR hO hp
                have h64 : slotOf a 64 = .pointer (some ⟨b10, 0, none⟩) := hp.1
                have c0 := keep_cell z0 hG
                refine kY (v := .int .i64 sp) hG rfl ?_
                simp [slotOf] at h64
                simp [execOp, go_sem, h64, c0]
              · intro a W hG hR hO hp
                have h63 : slotOf a 63 = .slice (some ⟨ab, ao, none⟩) T.y.s.spots.length c := hp.1
                have h65 : slotOf a 65 = .int .i64 sp := hp.2.1
                refine kY (v := .pointer (some ⟨ab, ao + sp, none⟩)) hG rfl ?_
                simp [slotOf] at h63 h65
                simp [execOp, go_sem, h63, h65, hsl]
              · intro a W hG hR hO hp
                have h66 : slotOf a 66 = .pointer (some ⟨ab, ao + sp, none⟩) := hp.1
                have c0 := keep_cell a0 hG
                refine kY (v := .map (some mi)) hG rfl ?_
                simp [slotOf] at h66
                simp [execOp, go_sem, h66, c0]
            · intro w4 hG hR
              rintro _ rfl _ rfl _ rfl _ rfl _ rfl _ rfl _ rfl _ rfl
              change wpList _ _ _ _ _ _
              simp only [Act.put, List.setIfInBounds_toArray, List.set_cons_zero, List.set_cons_succ, List.drop_succ_cons, List.drop_zero]
              have H4 := Lib.hid (show newer w1 w4 ∧ Whole w4 b10 112 (tlC t) ∧ Whole w4 b11 130 #[vi 0, vi 0] ∧ KMap mvV trV mi (kvL (aliveS T.y.s ks sp)) w4 from ⟨newer_trans H3.out.1 hG, H3.out.2.1.below hG H3.out.2.1.lt, H3.out.2.2.1.below hG H3.out.2.2.1.lt, H3.out.2.2.2.next hG⟩)
              clear hG hR H3 z0 l6 a0 hsl
              go_wp2_with (at_range; refine wpList_range_s _ rfl _ 128 rfl Try.underlying128 mi (kvL (aliveS T.y.s ks sp)) rfl H4.out.2.2.2 ?_; intro w5 hn5 hit5)
              obtain ⟨ib, hib⟩ : ∃ q, q = w4.heap.size := ⟨_, rfl⟩
              rw [← hib] at hit5 ⊢
              rw [kv_keys] at hit5
              have H5 := Lib.hid (show newer w1 w5 ∧ Whole w5 b10 112 (tlC t) ∧ Whole w5 b11 130 #[vi 0, vi 0] ∧ KIter mvV trV mi (kvL (aliveS T.y.s ks sp)) ib (aliveS T.y.s ks sp) w5 from ⟨newer_trans H4.out.1 hn5, H4.out.2.1.below hn5 H4.out.2.1.lt, H4.out.2.2.1.below hn5 H4.out.2.2.1.lt, hit5⟩)
              have HIB := Lib.hid (show b10 < ib ∧ b11 < ib by have h1 := H4.out.2.1.lt; have h2 := H4.out.2.2.1.lt; omega)
              clear hn5 hit5 hib H4
              try go_frame
              go_loopw [12, 13] (fun s12 _ wr => ∃ (rem don : List Mv) (e : Int × Int) (first : Bool), s12 = .bool first ∧ newer w1 wr ∧ Whole wr b10 112 (tlC t) ∧ Whole wr b11 130 #[vi e.1, vi e.2] ∧ KIter mvV trV mi (kvL (aliveS T.y.s ks sp)) ib rem wr ∧ (∀ m, m ∈ aliveS T.y.s ks sp ↔ m ∈ don ∨ m ∈ rem) ∧ (first = true → don = []) ∧ (first = false → EndsOf (don.map (sightN t)) e)) (fun _ _ wr => itLeft ib wr)
              case atStart => exact ⟨aliveS T.y.s ks sp, [], (0, 0), true, rfl, H5.out.1, H5.out.2.1, H5.out.2.2.1, H5.out.2.2.2, fun m => by simp, fun _ => rfl, fun h => by cases h⟩
              case round =>
                obtain ⟨rem, don, e, first, rfl, hnw, hw10, hw11, hit, hmm, hfi, hen⟩ := hrel
                have HIT := Lib.hid hit
                have HF := Lib.hid (And.intro hnw (And.intro hw10 (And.intro hw11 (And.intro hmm (And.intro hfi hen)))))
                have z0 := hw10.at 0 (v := vi t.spot) rfl
                have z1 := hw10.at 1 (v := vi t.a) rfl
                have z2 := hw10.at 2 (v := vi t.b) rfl
                have z3 := hw10.at 3 (v := vi t.turn) rfl
                have z4 := hw10.at 4 (v := vi t.err) rfl
                have z5 := hw10.at 5 (v := vi t.drift) rfl
                have z6 := hw10.at 6 (v := vi t.since) rfl
                have s3 := (HM1.out.sb.below hnw HM1.out.sb.lt).at 3 (v := vi T.y.s.day) rfl
                clear hnw hw10 hw11 hit hmm hfi hen H5
                go_wp2_with (at_next; refine wpList_next_s _ rfl _ rfl mi ib (kvL (aliveS T.y.s ks sp)) rem rfl HIT.out ?_ ?_; (intro hall; have HALL := Lib.hid hall; clear hall); rotate_left 1; (intro p w6 hp hpr hit6 hbel hsz hoth hen; obtain ⟨⟨ox, oy⟩, _⟩ := p; have HP := Lib.hid (And.intro hp hpr); have HIT6 := Lib.hid hit6; have HBEL := Lib.hid hbel; clear hp hpr hit6 hbel hsz hoth))
                · clear z0 z1 z2 z3 z4 z5 z6 s3
                  have h6 := HBEL.out ib (Nat.le_refl _)
                  have hn6 : newer w1 w6 := HF.out.1.trans (HBEL.out _ (by have := HIB.out; have := HB11.out; omega))
                  have hm6 := newer_allocH w6 (.cells #[vi ox, vi oy] 116)
                  have HX := Lib.hid (show newer w1 (w6.alloc (.cells #[vi ox, vi oy] 116)) ∧ Whole (w6.alloc (.cells #[vi ox, vi oy] 116)) b10 112 (tlC t) ∧ Whole (w6.alloc (.cells #[vi ox, vi oy] 116)) b11 130 #[vi e.1, vi e.2] ∧ Whole (w6.alloc (.cells #[vi ox, vi oy] 116)) w6.heap.size 116 #[vi ox, vi oy] ∧ KIter mvV trV mi (kvL (aliveS T.y.s ks sp)) ib (rem.filter fun k => decide (k ≠ (ox, oy))) (w6.alloc (.cells #[vi ox, vi oy] 116)) from by
                    have a1 := HF.out.2.1.below h6 HIB.out.1
                    have a2 := HF.out.2.2.1.below h6 HIB.out.2
                    exact ⟨newer_trans hn6 hm6, a1.below hm6 a1.lt, a2.below hm6 a2.lt, Whole.made _ _ _, HIT6.out.next hm6⟩)
                  obtain ⟨mb, hmb⟩ : ∃ q, q = w6.heap.size := ⟨_, rfl⟩
                  rw [← hmb] at HX ⊢
                  refine genQ (fun X => newer w1 X ∧ Whole X b10 112 (tlC t) ∧ Whole X b11 130 #[vi e.1, vi e.2] ∧ Whole X mb 116 #[vi ox, vi oy] ∧ KIter mvV trV mi (kvL (aliveS T.y.s ks sp)) ib (rem.filter fun k => decide (k ≠ (ox, oy))) X) HX.out ?_
                  clear HX hmb hm6 hn6 h6 hen HIT6 HBEL w6
                  rintro w6 ⟨g1, g2, g3, g4, g5⟩
                  have z0 := g2.at 0 (v := vi t.spot) rfl
                  have z1 := g2.at 1 (v := vi t.a) rfl
                  have z2 := g2.at 2 (v := vi t.b) rfl
                  have z3 := g2.at 3 (v := vi t.turn) rfl
                  have z4 := g2.at 4 (v := vi t.err) rfl
                  have z5 := g2.at 5 (v := vi t.drift) rfl
                  have z6 := g2.at 6 (v := vi t.since) rfl
                  have e0 := g3.at 0 (v := vi e.1) rfl
                  have e1 := g3.at 1 (v := vi e.2) rfl
                  have m0 := g4.at 0 (v := vi ox) rfl
                  have m1 := g4.at 1 (v := vi oy) rfl
                  have H6 := Lib.hid (And.intro g1 (And.intro g2 (And.intro g3 g5)))
                  clear g1 g2 g3 g4 g5
                  have hoL : (ox, oy) ∈ aliveS T.y.s ks sp := kv_mem HP.out.1
                  have hbo := fw_bd HS.out HSP.out.2 (alive_fw HSP.out.2 hoL)
                  dsimp only at hbo
                  have HSG := Lib.hid (fun W => sight_any t (ox, oy) W (by have := HT.out.2.a; omega) (by have := HT.out.2.b; omega) (by dsimp only; omega) (by dsimp only; omega))
                  obtain ⟨sg, hsg⟩ : ∃ q, q = sightN t (ox, oy) := ⟨_, rfl⟩
                  rw [← hsg] at HSG
                  have HSV := Lib.hid hsg
                  clear hsg hoL hbo
                  refine wp_words (by kernel_rfl) (region_told 6 (by kernel_rfl) (by kernel_rfl) (fun W => Below w6.heap.size w6 W) newer (pickD [vIs (prV e), vIs (tlV t), vIs (mvV (ox, oy)), vIs (vi sg), vIs (.bool first), vIs (prV (joinN e sg first))]) (fun h k => newer_trans h k) (pickD_stable _ ⟨vIs_st, vIs_st, vIs_st, vIs_st, vIs_st, vIs_st, trivial⟩) (Below.refl _ w6).drew (Below.refl _ _) ?_ ?_)
                  · refine ⟨?_, ?_, ?_, ?_, ?_, ?_, trivial⟩
                    · intro a W hG hR hO hp
                      have h11 := hO.slot 11 (by kernel_rfl)
                      have c0 := keep_cell e0 hG
                      have c1 := keep_cell e1 hG
                      refine kY (v := prV e) hG rfl ?_
                      simp [slotOf] at h11
                      simp [execOp, go_sem, h11, c0, c1]
                    · intro a W hG hR hO hp
                      have h10 := hO.slot 10 (by kernel_rfl)
                      have c0 := keep_cell z0 hG
                      have c1 := keep_cell z1 hG
                      have c2 := keep_cell z2 hG
                      have c3 := keep_cell z3 hG
                      have c4 := keep_cell z4 hG
                      have c5 := keep_cell z5 hG
                      have c6 := keep_cell z6 hG
                      refine kY (v := tlV t) hG rfl ?_
                      simp [slotOf] at h10
                      simp [execOp, go_sem, h10, c0, c1, c2, c3, c4, c5, c6]
                    · intro a W hG hR hO hp
                      have h13 := hO.slot 13 (by kernel_rfl)
                      have c0 := keep_cell m0 hG
                      have c1 := keep_cell m1 hG
                      refine kY (v := mvV (ox, oy)) hG rfl ?_
                      simp [slotOf] at h13
                      simp [execOp, go_sem, h13, c0, c1]
                    · intro a W hG hR hO hp
                      have h74 : slotOf a 74 = tlV t := hp.1
                      have h75 : slotOf a 75 = mvV (ox, oy) := hp.2.1
                      refine wp_enters (f := 108) (args := #[tlV t, mvV (ox, oy)]) ?_ ((HSG.out W).mono ?_)
                      · simp [slotOf] at h74 h75
                        simp [go_sem, h74, h75]
                      · rintro e w' ⟨rfl, hb⟩
                        exact ⟨_, rfl, _, rfl, rfl, hb, below_next hG hb⟩
                    · exact fun a W hG _ hO _ => kM 12 rfl (hO.slot 12 (by kernel_rfl)) rfl hG
                    · intro a W hG hR hO hp
                      have h73 : slotOf a 73 = prV e := hp.1
                      have h76 : slotOf a 76 = vi sg := hp.2.1
                      have h77 : slotOf a 77 = .bool first := hp.2.2.1
                      refine wp_enters (f := 63) (args := #[prV e, vi sg, .bool first]) ?_ ((joined_any e sg first W).mono ?_)
                      · simp [slotOf] at h73 h76 h77
                        simp [go_sem, h73, h76, h77]
                      · rintro e w' ⟨rfl, hb⟩
                        exact ⟨_, rfl, _, rfl, rfl, hb, below_next hG hb⟩
                  · intro w7 hG hR
                    rintro _ rfl _ rfl _ rfl _ rfl _ rfl _ rfl
                    change wpList _ _ _ _ _ _
                    simp only [Act.put, List.setIfInBounds_toArray, List.set_cons_zero, List.set_cons_succ, List.drop_succ_cons, List.drop_zero]
                    have h11 := H6.out.2.2.1.below hG H6.out.2.2.1.lt
                    have c0 := h11.at 0 (v := vi e.1) rfl
                    have c1 := h11.at 1 (v := vi e.2) rfl
                    have f0 := h11.free 0
                    have f1 := h11.free 1
                    have h12 := h11.set 0 (vi (joinN e sg first).1)
                    have d1 := h12.at 1 (v := vi e.2) rfl
                    have df := h12.free 1
                    have HE := Lib.hid (show newer w1 ((w7.setCell ⟨b11, 0, none⟩ (vi (joinN e sg first).1)).setCell ⟨b11, 1, none⟩ (vi (joinN e sg first).2)) ∧ Whole ((w7.setCell ⟨b11, 0, none⟩ (vi (joinN e sg first).1)).setCell ⟨b11, 1, none⟩ (vi (joinN e sg first).2)) b10 112 (tlC t) ∧ Whole ((w7.setCell ⟨b11, 0, none⟩ (vi (joinN e sg first).1)).setCell ⟨b11, 1, none⟩ (vi (joinN e sg first).2)) b11 130 #[vi (joinN e sg first).1, vi (joinN e sg first).2] ∧ KIter mvV trV mi (kvL (aliveS T.y.s ks sp)) ib (rem.filter fun k => decide (k ≠ (ox, oy))) ((w7.setCell ⟨b11, 0, none⟩ (vi (joinN e sg first).1)).setCell ⟨b11, 1, none⟩ (vi (joinN e sg first).2)) from by
                      have k1 := newer_trans H6.out.1 hG
                      have k2 := H6.out.2.1.below hG H6.out.2.1.lt
                      have k4 := H6.out.2.2.2.next hG
                      have hge : w1.heap.size ≤ b11 := by have := HB12.out; have := HB11.out; omega
                      have hib := HIB.out
                      refine ⟨(k1.setCell (p := ⟨b11, 0, none⟩) hge _).setCell (p := ⟨b11, 1, none⟩) hge _, (k2.far (p := ⟨b11, 0, none⟩) (by show b10 ≠ b11; have := HB12.out; omega) _).far (p := ⟨b11, 1, none⟩) (by show b10 ≠ b11; have := HB12.out; omega) _, h12.set 1 _, ?_⟩
                      have hmi : mi ≠ b11 := fun e2 => by
                        obtain ⟨es, kk, h5, _⟩ := k4.map.len
                        unfold Whole at h11
                        rw [e2, h11] at h5
                        injection h5 with h5
                        cases h5
                      exact k4.same ((Below.heap_setCell _ ⟨b11, 1, none⟩ _ mi hmi).trans (Below.heap_setCell _ ⟨b11, 0, none⟩ _ mi hmi)) ((Below.heap_setCell _ ⟨b11, 1, none⟩ _ ib (by show ib ≠ b11; omega)).trans (Below.heap_setCell _ ⟨b11, 0, none⟩ _ ib (by show ib ≠ b11; omega))))
                    clear hG hR h11 h12 e0 e1 m0 m1 z0 z1 z2 z3 z4 z5 z6
                    go_wp2_with fail
                    refine ⟨⟨rem.filter fun k => decide (k ≠ (ox, oy)), (ox, oy) :: don, joinN e sg first, false, rfl, HE.out.1, HE.out.2.1, HE.out.2.2.1, HE.out.2.2.2, fun m => ?_, fun h => (by cases h), fun _ => ?_⟩, ?_⟩
                    · rw [HF.out.2.2.2.1 m]
                      by_cases em : m = (ox, oy)
                      · simp [em, HP.out.2]
                      · simp [em, List.mem_filter]
                    · rw [List.map_cons, ← HSV.out]
                      exact EndsOf.join HF.out.2.2.2.2.2 (fun h => by rw [HF.out.2.2.2.2.1 h]; rfl)
                    · rw [HE.out.2.2.2.left, HIT.out.left]
                      exact filter_less HP.out.2
                · have hnd : don ≠ [] := by
                    obtain ⟨f, hf⟩ := (ok_iff (by have := HS.out.spots; omega)).1 HO.out.symm
                    have hm := (mem_alive (ks := ks) HSP.out.2).2 ⟨f, hf, rfl⟩
                    rcases (HF.out.2.2.2.1 _).1 hm with h | h
                    · exact List.ne_nil_of_mem h
                    · rw [HALL.out] at h; cases h
                  have hfi : first = false := by
                    cases first with
                    | false => rfl
                    | true => exact absurd (HF.out.2.2.2.2.1 rfl) hnd
                  have hen := HF.out.2.2.2.2.2 hfi
                  obtain ⟨lo, hlo⟩ : ∃ q, q = e.1 := ⟨_, rfl⟩
                  obtain ⟨hi, hhi⟩ : ∃ q, q = e.2 := ⟨_, rfl⟩
                  have hsd : ∀ m, m ∈ don → -180 ≤ sightN t m ∧ sightN t m ≤ 180 := fun m hm => by
                    have hbo := fw_bd HS.out HSP.out.2 (alive_fw HSP.out.2 ((HF.out.2.2.2.1 m).2 (.inl hm)))
                    exact sight_bd HT.out.2 hbo.1 hbo.2
                  have HLH : Hid ((-180 ≤ lo ∧ lo ≤ hi ∧ hi ≤ 180) ∧ ∀ m ∈ aliveS T.y.s ks sp, lo ≤ sightN t m ∧ sightN t m ≤ hi) := Lib.hid (by
                    obtain ⟨m1, h1, h2⟩ := List.mem_map.1 hen.lo
                    obtain ⟨m2, h3, h4⟩ := List.mem_map.1 hen.hi
                    have h5 := hsd m1 h1
                    have h6 := hsd m2 h3
                    have h7 := hen.all _ hen.hi
                    refine ⟨by omega, fun m hm => ?_⟩
                    rcases (HF.out.2.2.2.1 m).1 hm with h | h
                    · have := hen.all _ (List.mem_map.2 ⟨m, h, rfl⟩)
                      omega
                    · rw [HALL.out] at h; cases h)
                  have HB0 := Lib.hid (show newer w1 wr ∧ Whole wr b10 112 (tlC t) ∧ Whole wr b11 130 #[vi lo, vi hi] from ⟨HF.out.1, HF.out.2.1, by rw [hlo, hhi]; exact HF.out.2.2.1⟩)
                  have HOF := Lib.hid (off_any t T.y.s.day wr (by have := HT.out.2.err; omega) (by have := HT.out.2.drift; omega) (by have := HT.out.2.since; have := HS.out.day; omega) (by have := HS.out.day; omega))
                  have hob := off_bd HT.out.2 HS.out.day.1 HS.out.day.2
                  obtain ⟨off, hoff⟩ : ∃ q, q = offN t T.y.s.day := ⟨_, rfl⟩
                  rw [← hoff] at HOF hob
                  have HOV := Lib.hid hoff
                  clear hnd hfi hen hlo hhi hsd hoff z0 z1 z2 z3 z4 z5 z6 s3
                  refine (HOF.out).mono ?_
                  rintro e9 w9 ⟨rfl, hb9⟩
                  have H9 := Lib.hid (show newer w1 w9 ∧ Whole w9 b10 112 (tlC t) ∧ Whole w9 b11 130 #[vi lo, vi hi] from ⟨newer_trans HB0.out.1 hb9, HB0.out.2.1.below hb9 HB0.out.2.1.lt, HB0.out.2.2.below hb9 HB0.out.2.2.lt⟩)
                  clear hb9 HB0 HOF HF HALL HIT
                  have hrl : (tool : Int) < T.y.s.reads.length := by rw [HS.out.reads]; omega
                  obtain ⟨rd, hrd⟩ : ∃ q, T.y.s.reads[tool]? = some q := ⟨_, List.getElem?_eq_getElem (by omega)⟩
                  have hrb := HS.out.read rd (List.mem_of_getElem? hrd)
                  have HRD := Lib.hid hrd
                  have hm9 := HM1.out.next hT H9.out.1
                  obtain ⟨br, orr, er, hbr, r0⟩ := row1 (hm9.sm.ok (by have := hm9.sb.lt; have := hT.o1; omega)).rd hrd
                  have s4 := hm9.sb.at 4 (v := .slice T.y.ra T.y.s.reads.length T.y.rc) rfl
                  rw [er] at s4
                  have e0 := H9.out.2.2.at 0 (v := vi lo) rfl
                  have z3 := H9.out.2.1.at 3 (v := vi t.turn) rfl
                  have hlh := HLH.out.1
                  have htT : 2 ≤ t.turn ∧ t.turn ≤ 200 := by rcases HT.out.2.turn with h | h; exact absurd h HT0.out; exact h
                  have hw1 : IntKind.i64.wrap (lo - rd) = lo - rd := IntWalk.i64_in _ (by omega)
                  have hw2 : IntKind.i64.wrap (lo - rd - off) = lo - rd - off := IntWalk.i64_in _ (by omega)
                  have hw3 : IntKind.i64.wrap (hi - rd) = hi - rd := IntWalk.i64_in _ (by omega)
                  have hw4 : IntKind.i64.wrap (hi - rd + off) = hi - rd + off := IntWalk.i64_in _ (by omega)
                  have HD1 := Lib.hid (fun W => down_any (lo - rd - off) t.turn W (by omega) (by omega))
                  have HD2 := Lib.hid (fun W => down_any (hi - rd + off) t.turn W (by omega) (by omega))
                  have hkk := turn_range htT.1 hlh.1 hlh.2.1 hlh.2.2 hrb hob
                  obtain ⟨f, hf⟩ : ∃ f : Int → List (List (Option Int)), f = fun k => outT T.y.s r (tool + 1) (ks.set tool (some k)) := ⟨_, rfl⟩
                  have hrat : readAt T.y.s tool = rd := by unfold readAt; rw [List.getD_eq_getElem?_getD, hrd]; rfl
                  have HZE : Hid (Z = (frtoL (downN (lo - rd - off) t.turn) (downN (hi - rd + off) t.turn)).flatMap f) := Lib.hid (by
                    have h1 := out_cut (s := T.y.s) (r := r) (ks := ks) (lo := lo) (hi := hi) (by have := HS.out.spots; omega) HS.out.toolIn HT.out.1 HK.out.2.ln (HK.out.2.fr tool (Nat.le_refl _)) HT0.out hlh.2.1 (by rw [← HOV.out]; exact hob.1) (by
                      have e1 : t.spot.toNat = sp := by rw [HSP.out.1]; rfl
                      rw [e1]
                      exact HLH.out.2) (by rw [hrat, ← HOV.out]; exact hkk.1) (by rw [hrat, ← HOV.out]; exact hkk.2.1)
                    rw [HZ.out, outT, if_pos HO.out.symm, HT.out.1]
                    simp only [if_neg HT0.out]
                    rw [h1, hrat, ← HOV.out, hf])
                  obtain ⟨k0, hk0⟩ : ∃ q, q = downN (lo - rd - off) t.turn := ⟨_, rfl⟩
                  obtain ⟨k1, hk1⟩ : ∃ q, q = downN (hi - rd + off) t.turn := ⟨_, rfl⟩
                  rw [← hk0] at HD1 HZE hkk
                  rw [← hk1] at HD2 HZE hkk
                  have HFF := Lib.hid hf
                  have HKK := Lib.hid hkk
                  have HTT := Lib.hid htT
                  have HLHB := Lib.hid hlh
                  have HWS := Lib.hid (And.intro hw3 hw4)
                  clear hm9 er hbr hrd hf hrat hk0 hk1 hkk htT hw3 hw4
                  go_wp2_with fail
                  refine wp_words (by kernel_rfl) (region_told 13 (by kernel_rfl) (by kernel_rfl) (fun W => Below w9.heap.size w9 W) newer (pickD [vIs (.pointer (some ⟨b11, 0, none⟩)), vIs (vi lo), vIs (.pointer (some ⟨T.sb, 4, none⟩)), vIs (.slice (some ⟨br, orr, none⟩) T.y.s.reads.length T.y.rc), vIs (.int .i64 tool), vIs (.pointer (some ⟨br, orr + tool, none⟩)), vIs (vi rd), vIs (vi (lo - rd)), vIs (vi off), vIs (vi (lo - rd - off)), vIs (.pointer (some ⟨b10, 3, none⟩)), vIs (vi t.turn), vIs (vi k0)]) (fun h k => newer_trans h k) (pickD_stable _ ⟨vIs_st, vIs_st, vIs_st, vIs_st, vIs_st, vIs_st, vIs_st, vIs_st, vIs_st, vIs_st, vIs_st, vIs_st, vIs_st, trivial⟩) (Below.refl _ w9).drew (Below.refl _ _) ?_ ?_)
                  · refine ⟨?_, ?_, ?_, ?_, ?_, ?_, ?_, ?_, ?_, ?_, ?_, ?_, ?_, trivial⟩
                    · intro a W hG hR hO hp
                      have h11 := hO.slot 11 (by kernel_rfl)
                      refine kY (v := .pointer (some ⟨b11, 0, none⟩)) hG rfl ?_
                      simp [slotOf] at h11
                      simp [execOp, go_sem, h11]
                    · intro a W hG hR hO hp
                      have h83 : slotOf a 83 = .pointer (some ⟨b11, 0, none⟩) := hp.1
                      have c0 := keep_cell e0 hG
                      refine kY (v := vi lo) hG rfl ?_
                      simp [slotOf] at h83
                      simp [execOp, go_sem, h83, c0]
                    · intro a W hG hR hO hp
                      have h1 := hO.slot 1 (by kernel_rfl)
                      refine kY (v := .pointer (some ⟨T.sb, 4, none⟩)) hG rfl ?_
                      simp [slotOf] at h1
                      simp [execOp, go_sem, h1]
                    · intro a W hG hR hO hp
                      have h85 : slotOf a 85 = .pointer (some ⟨T.sb, 4, none⟩) := hp.1
                      have c0 := keep_cell s4 hG
                      refine kY (v := .slice (some ⟨br, orr, none⟩) T.y.s.reads.length T.y.rc) hG rfl ?_
                      simp [slotOf] at h85
                      simp [execOp, go_sem, h85, c0]
                    · exact fun a W hG _ hO _ => kM 0 rfl (hO.slot 0 (by kernel_rfl)) rfl hG
                    · intro a W hG hR hO hp
                      have h86 : slotOf a 86 = .slice (some ⟨br, orr, none⟩) T.y.s.reads.length T.y.rc := hp.1
                      have h87 : slotOf a 87 = .int .i64 tool := hp.2.1
                      refine kY (v := .pointer (some ⟨br, orr + tool, none⟩)) hG rfl ?_
                      simp [slotOf] at h86 h87
                      simp [execOp, go_sem, h86, h87, hrl]
                    · intro a W hG hR hO hp
                      have h88 : slotOf a 88 = .pointer (some ⟨br, orr + tool, none⟩) := hp.1
                      have c0 := keep_cell r0 hG
                      refine kY (v := vi rd) hG rfl ?_
                      simp [slotOf] at h88
                      simp [execOp, go_sem, h88, c0]
                    · intro a W hG hR hO hp
                      have h84 : slotOf a 84 = vi lo := hp.1
                      have h89 : slotOf a 89 = vi rd := hp.2.1
                      refine kY (v := vi (lo - rd)) hG rfl ?_
                      simp [slotOf] at h84 h89
                      simp [execOp, go_sem, h84, h89, hw1]
                    · exact fun a W hG _ hO _ => kM 14 rfl (hO.slot 14 (by kernel_rfl)) rfl hG
                    · intro a W hG hR hO hp
                      have h90 : slotOf a 90 = vi (lo - rd) := hp.1
                      have h91 : slotOf a 91 = vi off := hp.2.1
                      refine kY (v := vi (lo - rd - off)) hG rfl ?_
                      simp [slotOf] at h90 h91
                      simp [execOp, go_sem, h90, h91, hw2]
                    · intro a W hG hR hO hp
                      have h10 := hO.slot 10 (by kernel_rfl)
                      refine kY (v := .pointer (some ⟨b10, 3, none⟩)) hG rfl ?_
                      simp [slotOf] at h10
                      simp [execOp, go_sem, h10]
                    · intro a W hG hR hO hp
                      have h93 : slotOf a 93 = .pointer (some ⟨b10, 3, none⟩) := hp.1
                      have c0 := keep_cell z3 hG
                      refine kY (v := vi t.turn) hG rfl ?_
                      simp [slotOf] at h93
                      simp [execOp, go_sem, h93, c0]
                    · intro a W hG hR hO hp
                      have h92 : slotOf a 92 = vi (lo - rd - off) := hp.1
                      have h94 : slotOf a 94 = vi t.turn := hp.2.1
                      refine wp_enters (f := 133) (args := #[vi (lo - rd - off), vi t.turn]) ?_ ((HD1.out W).mono ?_)
                      · simp [slotOf] at h92 h94
                        simp [go_sem, h92, h94]
                      · rintro e w' ⟨rfl, hb⟩
                        exact ⟨_, rfl, _, rfl, rfl, hb, below_next hG hb⟩
                  · intro w10 hG hR
                    rintro _ rfl _ rfl _ rfl _ rfl _ rfl _ rfl _ rfl _ rfl _ rfl _ rfl _ rfl _ rfl _ rfl
                    change wpList _ _ _ _ _ _
                    simp only [Act.put, List.setIfInBounds_toArray, List.set_cons_zero, List.set_cons_succ, List.drop_succ_cons, List.drop_zero]
                    have H10 := Lib.hid (show newer w1 w10 ∧ Whole w10 b10 112 (tlC t) ∧ Whole w10 b11 130 #[vi lo, vi hi] from ⟨newer_trans H9.out.1 hG, H9.out.2.1.below hG H9.out.2.1.lt, H9.out.2.2.below hG H9.out.2.2.lt⟩)
                    clear hG hR H9 hw1 hw2 e0 z3 s4 r0 hlh hrb hob
                    have HKS := Lib.hid (show ks[tool]? = some none from by
                      have h1 := HK.out.2.fr tool (Nat.le_refl _)
                      rw [List.getD_eq_getElem?_getD] at h1
                      have h2 : tool < ks.length := by rw [HK.out.2.ln]; exact hlt
                      rw [List.getElem?_eq_getElem h2] at h1 ⊢
                      simpa using h1)
                    have HKN := Lib.hid (show ks.set tool none = ks from by
                      obtain ⟨h1, h2⟩ := List.getElem?_eq_some_iff.1 HKS.out
                      rw [← h2, List.set_getElem_self])
                    go_wp2_with fail
                    go_loopw [15] (fun s15 wr => ∃ (k : Int) (o : Option Int) (xs' : List Ln) (ls' : List Nat) (A1' : Option Addr) (c1' : Nat) (A2' : Option Addr) (c2' : Nat), s15 = vi k ∧ k0 ≤ k ∧ k ≤ k1 + 1 ∧ FdM T (ks.set tool o) (S ++ (frtoL k0 (k - 1)).flatMap f) xs' ls' A1' c1' A2' c2' wr ∧ MovF T (own1 A1 xs.length c1) (own1 A2 ls.length c2) we wr ∧ LinkO (own1 A1 xs.length c1) (own1 A1' xs'.length c1') we ∧ LinkO (own1 A2 ls.length c2) (own1 A2' ls'.length c2') we ∧ Whole wr b10 112 (tlC t) ∧ Whole wr b11 130 #[vi lo, vi hi]) (fun s15 _ => (k1 + 1 - intOf s15).toNat)
                    case atStart => exact ⟨k0, none, xs, ls, A1, c1, A2, c2, rfl, Int.le_refl _, by have := HKK.out; omega, by rw [HKN.out, frto_nil, List.flatMap_nil, List.append_nil]; exact HM1.out.next hT H10.out.1, MovF.ofNewer T _ _ (newer_trans HN1.out H10.out.1), LinkO.refl _ _, LinkO.refl _ _, H10.out.2.1, H10.out.2.2⟩
                    case round =>
                      obtain ⟨k, o, xs', ls', A1', c1', A2', c2', rfl, hka, hkb, hm, hmv, hl1, hl2, hw10, hw11⟩ := hrel
                      have hrl : (tool : Int) < T.y.s.reads.length := by rw [HS.out.reads]; omega
                      obtain ⟨br, orr, er, hbr, r0⟩ := row1 (hm.sm.ok (by have := hm.sb.lt; have := hT.o1; omega)).rd HRD.out
                      have s4 := hm.sb.at 4 (v := .slice T.y.ra T.y.s.reads.length T.y.rc) rfl
                      rw [er] at s4
                      have e1 := hw11.at 1 (v := vi hi) rfl
                      have z3 := hw10.at 3 (v := vi t.turn) rfl
                      have f0 := hm.fb.at 0 (v := .bool (decide ((S ++ (frtoL k0 (k - 1)).flatMap f).length ≤ 60))) rfl
                      have HJ := Lib.hid (And.intro hka (And.intro hkb (And.intro hm (And.intro hmv (And.intro hl1 (And.intro hl2 (And.intro hw10 hw11)))))))
                      have hw3 := HWS.out.1
                      have hw4 := HWS.out.2
                      have hlb := HLHB.out
                      clear hm hmv hl1 hl2 hw10 hw11 er hbr
                      by_cases hle : k ≤ k1
                      case neg =>
                        have hkk1 : k = k1 + 1 := by omega
                        have HEND := Lib.hid (show Z = (frtoL k0 (k - 1)).flatMap f by rw [HZE.out, hkk1, show k1 + 1 - 1 = k1 by omega])
                        clear hkk1
                        go_upto_region 17 with fail
                        refine wp_words (by kernel_rfl) (region_told_u 17 (by kernel_rfl) (by kernel_rfl) [false, false, false, false, false, false, false, false, false, false, false, false, false, false, false, false, true] (fun W => Below wr.heap.size wr W) newer [vIs (vi k), vIs (.pointer (some ⟨b11, 1, none⟩)), vIs (vi hi), vIs (.pointer (some ⟨T.sb, 4, none⟩)), vIs (.slice (some ⟨br, orr, none⟩) T.y.s.reads.length T.y.rc), vIs (.int .i64 tool), vIs (.pointer (some ⟨br, orr + tool, none⟩)), vIs (vi rd), vIs (vi (hi - rd)), vIs (vi off), vIs (vi (hi - rd + off)), vIs (.pointer (some ⟨b10, 3, none⟩)), vIs (vi t.turn), vIs (vi k1), vIs (.bool false), vIs (.bool false), vIs (undef)] ⟨rfl, rfl, rfl, rfl, rfl, rfl, rfl, rfl, rfl, rfl, rfl, rfl, rfl, rfl, rfl, rfl, (fun v W h => by obtain rfl : v = _ := h; simp), trivial⟩ ⟨(fun h => Bool.noConfusion (show false = true from h)), (fun h => Bool.noConfusion (show false = true from h)), (fun h => Bool.noConfusion (show false = true from h)), (fun h => Bool.noConfusion (show false = true from h)), (fun h => Bool.noConfusion (show false = true from h)), (fun h => Bool.noConfusion (show false = true from h)), (fun h => Bool.noConfusion (show false = true from h)), (fun h => Bool.noConfusion (show false = true from h)), (fun h => Bool.noConfusion (show false = true from h)), (fun h => Bool.noConfusion (show false = true from h)), (fun h => Bool.noConfusion (show false = true from h)), (fun h => Bool.noConfusion (show false = true from h)), (fun h => Bool.noConfusion (show false = true from h)), (fun h => Bool.noConfusion (show false = true from h)), (fun h => Bool.noConfusion (show false = true from h)), (fun h => Bool.noConfusion (show false = true from h)), (fun _ _ => rfl), trivial⟩ (fun h k => newer_trans h k) (pickD_stable _ ⟨vIs_st, vIs_st, vIs_st, vIs_st, vIs_st, vIs_st, vIs_st, vIs_st, vIs_st, vIs_st, vIs_st, vIs_st, vIs_st, vIs_st, vIs_st, vIs_st, vIs_st, trivial⟩) (Below.refl _ wr).drew (Below.refl _ _) ?_ ?_)
                        · refine ⟨.inr ?_, .inr ?_, .inr ?_, .inr ?_, .inr ?_, .inr ?_, .inr ?_, .inr ?_, .inr ?_, .inr ?_, .inr ?_, .inr ?_, .inr ?_, .inr ?_, .inr ?_, .inr ?_, .inl rfl, trivial⟩
                          · exact fun a W hG _ hO _ => kM 15 rfl (hO.slot 15 (by kernel_rfl)) rfl hG
                          · intro a W hG hR hO hp
                            have h11 := hO.slot 11 (by kernel_rfl)
                            refine kY (v := .pointer (some ⟨b11, 1, none⟩)) hG rfl ?_
                            simp [slotOf] at h11
                            simp [execOp, go_sem, h11]
                          · intro a W hG hR hO hp
                            have h97 : slotOf a 97 = .pointer (some ⟨b11, 1, none⟩) := hp.1
                            have c0 := keep_cell e1 hG
                            refine kY (v := vi hi) hG rfl ?_
                            simp [slotOf] at h97
                            simp [execOp, go_sem, h97, c0]
                          · intro a W hG hR hO hp
                            have h1 := hO.slot 1 (by kernel_rfl)
                            refine kY (v := .pointer (some ⟨T.sb, 4, none⟩)) hG rfl ?_
                            simp [slotOf] at h1
                            simp [execOp, go_sem, h1]
                          · intro a W hG hR hO hp
                            have h99 : slotOf a 99 = .pointer (some ⟨T.sb, 4, none⟩) := hp.1
                            have c0 := keep_cell s4 hG
                            refine kY (v := .slice (some ⟨br, orr, none⟩) T.y.s.reads.length T.y.rc) hG rfl ?_
                            simp [slotOf] at h99
                            simp [execOp, go_sem, h99, c0]
                          · exact fun a W hG _ hO _ => kM 0 rfl (hO.slot 0 (by kernel_rfl)) rfl hG
                          · intro a W hG hR hO hp
                            have h100 : slotOf a 100 = .slice (some ⟨br, orr, none⟩) T.y.s.reads.length T.y.rc := hp.1
                            have h101 : slotOf a 101 = .int .i64 tool := hp.2.1
                            refine kY (v := .pointer (some ⟨br, orr + tool, none⟩)) hG rfl ?_
                            simp [slotOf] at h100 h101
                            simp [execOp, go_sem, h100, h101, hrl]
                          · intro a W hG hR hO hp
                            have h102 : slotOf a 102 = .pointer (some ⟨br, orr + tool, none⟩) := hp.1
                            have c0 := keep_cell r0 hG
                            refine kY (v := vi rd) hG rfl ?_
                            simp [slotOf] at h102
                            simp [execOp, go_sem, h102, c0]
                          · intro a W hG hR hO hp
                            have h98 : slotOf a 98 = vi hi := hp.1
                            have h103 : slotOf a 103 = vi rd := hp.2.1
                            refine kY (v := vi (hi - rd)) hG rfl ?_
                            simp [slotOf] at h98 h103
                            simp [execOp, go_sem, h98, h103, hw3]
                          · exact fun a W hG _ hO _ => kM 14 rfl (hO.slot 14 (by kernel_rfl)) rfl hG
                          · intro a W hG hR hO hp
                            have h104 : slotOf a 104 = vi (hi - rd) := hp.1
                            have h105 : slotOf a 105 = vi off := hp.2.1
                            refine kY (v := vi (hi - rd + off)) hG rfl ?_
                            simp [slotOf] at h104 h105
                            simp [execOp, go_sem, h104, h105, hw4]
                          · intro a W hG hR hO hp
                            have h10 := hO.slot 10 (by kernel_rfl)
                            refine kY (v := .pointer (some ⟨b10, 3, none⟩)) hG rfl ?_
                            simp [slotOf] at h10
                            simp [execOp, go_sem, h10]
                          · intro a W hG hR hO hp
                            have h107 : slotOf a 107 = .pointer (some ⟨b10, 3, none⟩) := hp.1
                            have c0 := keep_cell z3 hG
                            refine kY (v := vi t.turn) hG rfl ?_
                            simp [slotOf] at h107
                            simp [execOp, go_sem, h107, c0]
                          · intro a W hG hR hO hp
                            have h106 : slotOf a 106 = vi (hi - rd + off) := hp.1
                            have h108 : slotOf a 108 = vi t.turn := hp.2.1
                            refine wp_enters (f := 133) (args := #[vi (hi - rd + off), vi t.turn]) ?_ ((HD2.out W).mono ?_)
                            · simp [slotOf] at h106 h108
                              simp [go_sem, h106, h108]
                            · rintro e w' ⟨rfl, hb⟩
                              exact ⟨_, rfl, _, rfl, rfl, hb, below_next hG hb⟩
                          · intro a W hG hR hO hp
                            have h96 : slotOf a 96 = vi k := hp.1
                            have h109 : slotOf a 109 = vi k1 := hp.2.1
                            refine kY (v := .bool false) hG rfl ?_
                            simp [slotOf] at h96 h109
                            simp [execOp, go_sem, h96, h109, hle]
                          · exact fun a W hG _ _ hp => kM 110 rfl hp.1 rfl hG
                        · intro wz hG hR
                          rintro _ rfl _ rfl _ rfl _ rfl _ rfl _ rfl _ rfl _ rfl _ rfl _ rfl _ rfl _ rfl _ rfl _ rfl _ rfl _ rfl _ rfl
                          change wpList _ _ _ _ _ _
                          simp only [Act.put, List.setIfInBounds_toArray, List.set_cons_zero, List.set_cons_succ, List.drop_succ_cons, List.drop_zero]
                          have hm2 := HJ.out.2.2.1.next hT hG
                          have b0 := hm2.tb.at 0 (v := .slice (some ⟨T.q, 0, none⟩) (ks.set tool o).length (ks.set tool o).length) rfl
                          rw [List.length_set] at b0
                          have q0 := q_at hm2.q (k := tool) (o := o) (by rw [List.getElem?_set_self (by rw [HK.out.2.ln]; exact hlt)])
                          have qf := hm2.q.free tool
                          have hkl : (tool : Int) < ks.length := by rw [HK.out.2.ln]; omega
                          have HE := Lib.hid (hm2.setQ hT tool none)
                          have hsz : we.heap.size ≤ wz.heap.size := Nat.le_trans HJ.out.2.2.2.1.size hG.size
                          have HMV := Lib.hid (((HJ.out.2.2.2.1.trans HJ.out.2.2.2.2.1 HJ.out.2.2.2.2.2.1 (MovF.ofNewer T _ _ hG)).trans HJ.out.2.2.2.2.1 HJ.out.2.2.2.2.2.1 (MovF.ofGrown (d := T.q) (grown_set (p := ⟨T.q, tool, none⟩) (grown_refl wz _) (.inl rfl) (vi (koN none))) (.inl rfl))))
                          clear hG hR hm2 hsz
                          go_wp2_with fail
                          go_end0
                          exact ⟨⟨_, rfl⟩, xs', ls', A1', c1', A2', c2', by rw [HEND.out]; have h1 := HE.out; rw [List.set_set, HKN.out] at h1; exact h1, HMV.out, HJ.out.2.2.2.2.1, HJ.out.2.2.2.2.2.1⟩
                      case pos =>
                        by_cases hfw : (S ++ (frtoL k0 (k - 1)).flatMap f).length ≤ 60
                        case neg =>
                          rw [decide_eq_false hfw] at f0
                          have HEND := Lib.hid (show S ++ Z = (S ++ (frtoL k0 (k - 1)).flatMap f) ++ (frtoL k k1).flatMap f by rw [HZE.out, intL_cut (show k0 ≤ k by omega) (show k ≤ k1 + 1 by omega), List.flatMap_append, List.append_assoc])
                          have HOVR := Lib.hid (show 60 < (S ++ (frtoL k0 (k - 1)).flatMap f).length by omega)
                          clear hfw
                          go_upto_region 17 with fail
                          refine wp_words (by kernel_rfl) (region_told_u 17 (by kernel_rfl) (by kernel_rfl) [false, false, false, false, false, false, false, false, false, false, false, false, false, false, false, false, false] (fun W => Below wr.heap.size wr W) newer [vIs (vi k), vIs (.pointer (some ⟨b11, 1, none⟩)), vIs (vi hi), vIs (.pointer (some ⟨T.sb, 4, none⟩)), vIs (.slice (some ⟨br, orr, none⟩) T.y.s.reads.length T.y.rc), vIs (.int .i64 tool), vIs (.pointer (some ⟨br, orr + tool, none⟩)), vIs (vi rd), vIs (vi (hi - rd)), vIs (vi off), vIs (vi (hi - rd + off)), vIs (.pointer (some ⟨b10, 3, none⟩)), vIs (vi t.turn), vIs (vi k1), vIs (.bool true), vIs (.bool true), vIs (.bool false)] ⟨rfl, rfl, rfl, rfl, rfl, rfl, rfl, rfl, rfl, rfl, rfl, rfl, rfl, rfl, rfl, rfl, (fun v W h => by obtain rfl : v = _ := h; rfl), trivial⟩ ⟨(fun h => Bool.noConfusion (show false = true from h)), (fun h => Bool.noConfusion (show false = true from h)), (fun h => Bool.noConfusion (show false = true from h)), (fun h => Bool.noConfusion (show false = true from h)), (fun h => Bool.noConfusion (show false = true from h)), (fun h => Bool.noConfusion (show false = true from h)), (fun h => Bool.noConfusion (show false = true from h)), (fun h => Bool.noConfusion (show false = true from h)), (fun h => Bool.noConfusion (show false = true from h)), (fun h => Bool.noConfusion (show false = true from h)), (fun h => Bool.noConfusion (show false = true from h)), (fun h => Bool.noConfusion (show false = true from h)), (fun h => Bool.noConfusion (show false = true from h)), (fun h => Bool.noConfusion (show false = true from h)), (fun h => Bool.noConfusion (show false = true from h)), (fun h => Bool.noConfusion (show false = true from h)), (fun h => Bool.noConfusion (show false = true from h)), trivial⟩ (fun h k => newer_trans h k) (pickD_stable _ ⟨vIs_st, vIs_st, vIs_st, vIs_st, vIs_st, vIs_st, vIs_st, vIs_st, vIs_st, vIs_st, vIs_st, vIs_st, vIs_st, vIs_st, vIs_st, vIs_st, vIs_st, trivial⟩) (Below.refl _ wr).drew (Below.refl _ _) ?_ ?_)
                          · refine ⟨.inr ?_, .inr ?_, .inr ?_, .inr ?_, .inr ?_, .inr ?_, .inr ?_, .inr ?_, .inr ?_, .inr ?_, .inr ?_, .inr ?_, .inr ?_, .inr ?_, .inr ?_, .inr ?_, .inr ?_, trivial⟩
                            · exact fun a W hG _ hO _ => kM 15 rfl (hO.slot 15 (by kernel_rfl)) rfl hG
                            · intro a W hG hR hO hp
                              have h11 := hO.slot 11 (by kernel_rfl)
                              refine kY (v := .pointer (some ⟨b11, 1, none⟩)) hG rfl ?_
                              simp [slotOf] at h11
                              simp [execOp, go_sem, h11]
                            · intro a W hG hR hO hp
                              have h97 : slotOf a 97 = .pointer (some ⟨b11, 1, none⟩) := hp.1
                              have c0 := keep_cell e1 hG
                              refine kY (v := vi hi) hG rfl ?_
                              simp [slotOf] at h97
                              simp [execOp, go_sem, h97, c0]
                            · intro a W hG hR hO hp
                              have h1 := hO.slot 1 (by kernel_rfl)
                              refine kY (v := .pointer (some ⟨T.sb, 4, none⟩)) hG rfl ?_
                              simp [slotOf] at h1
                              simp [execOp, go_sem, h1]
                            · intro a W hG hR hO hp
                              have h99 : slotOf a 99 = .pointer (some ⟨T.sb, 4, none⟩) := hp.1
                              have c0 := keep_cell s4 hG
                              refine kY (v := .slice (some ⟨br, orr, none⟩) T.y.s.reads.length T.y.rc) hG rfl ?_
                              simp [slotOf] at h99
                              simp [execOp, go_sem, h99, c0]
                            · exact fun a W hG _ hO _ => kM 0 rfl (hO.slot 0 (by kernel_rfl)) rfl hG
                            · intro a W hG hR hO hp
                              have h100 : slotOf a 100 = .slice (some ⟨br, orr, none⟩) T.y.s.reads.length T.y.rc := hp.1
                              have h101 : slotOf a 101 = .int .i64 tool := hp.2.1
                              refine kY (v := .pointer (some ⟨br, orr + tool, none⟩)) hG rfl ?_
                              simp [slotOf] at h100 h101
                              simp [execOp, go_sem, h100, h101, hrl]
                            · intro a W hG hR hO hp
                              have h102 : slotOf a 102 = .pointer (some ⟨br, orr + tool, none⟩) := hp.1
                              have c0 := keep_cell r0 hG
                              refine kY (v := vi rd) hG rfl ?_
                              simp [slotOf] at h102
                              simp [execOp, go_sem, h102, c0]
                            · intro a W hG hR hO hp
                              have h98 : slotOf a 98 = vi hi := hp.1
                              have h103 : slotOf a 103 = vi rd := hp.2.1
                              refine kY (v := vi (hi - rd)) hG rfl ?_
                              simp [slotOf] at h98 h103
                              simp [execOp, go_sem, h98, h103, hw3]
                            · exact fun a W hG _ hO _ => kM 14 rfl (hO.slot 14 (by kernel_rfl)) rfl hG
                            · intro a W hG hR hO hp
                              have h104 : slotOf a 104 = vi (hi - rd) := hp.1
                              have h105 : slotOf a 105 = vi off := hp.2.1
                              refine kY (v := vi (hi - rd + off)) hG rfl ?_
                              simp [slotOf] at h104 h105
                              simp [execOp, go_sem, h104, h105, hw4]
                            · intro a W hG hR hO hp
                              have h10 := hO.slot 10 (by kernel_rfl)
                              refine kY (v := .pointer (some ⟨b10, 3, none⟩)) hG rfl ?_
                              simp [slotOf] at h10
                              simp [execOp, go_sem, h10]
                            · intro a W hG hR hO hp
                              have h107 : slotOf a 107 = .pointer (some ⟨b10, 3, none⟩) := hp.1
                              have c0 := keep_cell z3 hG
                              refine kY (v := vi t.turn) hG rfl ?_
                              simp [slotOf] at h107
                              simp [execOp, go_sem, h107, c0]
                            · intro a W hG hR hO hp
                              have h106 : slotOf a 106 = vi (hi - rd + off) := hp.1
                              have h108 : slotOf a 108 = vi t.turn := hp.2.1
                              refine wp_enters (f := 133) (args := #[vi (hi - rd + off), vi t.turn]) ?_ ((HD2.out W).mono ?_)
                              · simp [slotOf] at h106 h108
                                simp [go_sem, h106, h108]
                              · rintro e w' ⟨rfl, hb⟩
                                exact ⟨_, rfl, _, rfl, rfl, hb, below_next hG hb⟩
                            · intro a W hG hR hO hp
                              have h96 : slotOf a 96 = vi k := hp.1
                              have h109 : slotOf a 109 = vi k1 := hp.2.1
                              refine kY (v := .bool true) hG rfl ?_
                              simp [slotOf] at h96 h109
                              simp [execOp, go_sem, h96, h109, hle]
                            · exact fun a W hG _ _ hp => kM 110 rfl hp.1 rfl hG
                            · intro a W hG hR hO hp
                              have h3 := hO.slot 3 (by kernel_rfl)
                              have c0 := keep_cell f0 hG
                              refine kY (v := .bool false) hG rfl ?_
                              simp [slotOf] at h3
                              simp [execOp, go_sem, h3, c0]
                          · intro wz hG hR
                            rintro _ rfl _ rfl _ rfl _ rfl _ rfl _ rfl _ rfl _ rfl _ rfl _ rfl _ rfl _ rfl _ rfl _ rfl _ rfl _ rfl _ rfl
                            change wpList _ _ _ _ _ _
                            simp only [Act.put, List.setIfInBounds_toArray, List.set_cons_zero, List.set_cons_succ, List.drop_succ_cons, List.drop_zero]
                            have hm2 := HJ.out.2.2.1.next hT hG
                            have b0 := hm2.tb.at 0 (v := .slice (some ⟨T.q, 0, none⟩) (ks.set tool o).length (ks.set tool o).length) rfl
                            rw [List.length_set] at b0
                            have q0 := q_at hm2.q (k := tool) (o := o) (by rw [List.getElem?_set_self (by rw [HK.out.2.ln]; exact hlt)])
                            have qf := hm2.q.free tool
                            have hkl : (tool : Int) < ks.length := by rw [HK.out.2.ln]; omega
                            have HE := Lib.hid ((hm2.setQ hT tool none).over HOVR.out ((frtoL k k1).flatMap f))
                            have HMV := Lib.hid (((HJ.out.2.2.2.1.trans HJ.out.2.2.2.2.1 HJ.out.2.2.2.2.2.1 (MovF.ofNewer T _ _ hG)).trans HJ.out.2.2.2.2.1 HJ.out.2.2.2.2.2.1 (MovF.ofGrown (d := T.q) (grown_set (p := ⟨T.q, tool, none⟩) (grown_refl wz _) (.inl rfl) (vi (koN none))) (.inl rfl))))
                            clear hG hR hm2
                            go_wp2_with fail
                            go_end0
                            exact ⟨⟨_, rfl⟩, xs', ls', A1', c1', A2', c2', by rw [HEND.out]; have h1 := HE.out; rw [List.set_set, HKN.out] at h1; exact h1, HMV.out, HJ.out.2.2.2.2.1, HJ.out.2.2.2.2.2.1⟩
                        case pos =>
                          rw [decide_eq_true hfw] at f0
                          clear hfw
                          go_upto_region 17 with fail
                          refine wp_words (by kernel_rfl) (region_told_u 17 (by kernel_rfl) (by kernel_rfl) [false, false, false, false, false, false, false, false, false, false, false, false, false, false, false, false, false] (fun W => Below wr.heap.size wr W) newer [vIs (vi k), vIs (.pointer (some ⟨b11, 1, none⟩)), vIs (vi hi), vIs (.pointer (some ⟨T.sb, 4, none⟩)), vIs (.slice (some ⟨br, orr, none⟩) T.y.s.reads.length T.y.rc), vIs (.int .i64 tool), vIs (.pointer (some ⟨br, orr + tool, none⟩)), vIs (vi rd), vIs (vi (hi - rd)), vIs (vi off), vIs (vi (hi - rd + off)), vIs (.pointer (some ⟨b10, 3, none⟩)), vIs (vi t.turn), vIs (vi k1), vIs (.bool true), vIs (.bool true), vIs (.bool true)] ⟨rfl, rfl, rfl, rfl, rfl, rfl, rfl, rfl, rfl, rfl, rfl, rfl, rfl, rfl, rfl, rfl, (fun v W h => by obtain rfl : v = _ := h; rfl), trivial⟩ ⟨(fun h => Bool.noConfusion (show false = true from h)), (fun h => Bool.noConfusion (show false = true from h)), (fun h => Bool.noConfusion (show false = true from h)), (fun h => Bool.noConfusion (show false = true from h)), (fun h => Bool.noConfusion (show false = true from h)), (fun h => Bool.noConfusion (show false = true from h)), (fun h => Bool.noConfusion (show false = true from h)), (fun h => Bool.noConfusion (show false = true from h)), (fun h => Bool.noConfusion (show false = true from h)), (fun h => Bool.noConfusion (show false = true from h)), (fun h => Bool.noConfusion (show false = true from h)), (fun h => Bool.noConfusion (show false = true from h)), (fun h => Bool.noConfusion (show false = true from h)), (fun h => Bool.noConfusion (show false = true from h)), (fun h => Bool.noConfusion (show false = true from h)), (fun h => Bool.noConfusion (show false = true from h)), (fun h => Bool.noConfusion (show false = true from h)), trivial⟩ (fun h k => newer_trans h k) (pickD_stable _ ⟨vIs_st, vIs_st, vIs_st, vIs_st, vIs_st, vIs_st, vIs_st, vIs_st, vIs_st, vIs_st, vIs_st, vIs_st, vIs_st, vIs_st, vIs_st, vIs_st, vIs_st, trivial⟩) (Below.refl _ wr).drew (Below.refl _ _) ?_ ?_)
                          · refine ⟨.inr ?_, .inr ?_, .inr ?_, .inr ?_, .inr ?_, .inr ?_, .inr ?_, .inr ?_, .inr ?_, .inr ?_, .inr ?_, .inr ?_, .inr ?_, .inr ?_, .inr ?_, .inr ?_, .inr ?_, trivial⟩
                            · exact fun a W hG _ hO _ => kM 15 rfl (hO.slot 15 (by kernel_rfl)) rfl hG
                            · intro a W hG hR hO hp
                              have h11 := hO.slot 11 (by kernel_rfl)
                              refine kY (v := .pointer (some ⟨b11, 1, none⟩)) hG rfl ?_
                              simp [slotOf] at h11
                              simp [execOp, go_sem, h11]
                            · intro a W hG hR hO hp
                              have h97 : slotOf a 97 = .pointer (some ⟨b11, 1, none⟩) := hp.1
                              have c0 := keep_cell e1 hG
                              refine kY (v := vi hi) hG rfl ?_
                              simp [slotOf] at h97
                              simp [execOp, go_sem, h97, c0]
                            · intro a W hG hR hO hp
                              have h1 := hO.slot 1 (by kernel_rfl)
                              refine kY (v := .pointer (some ⟨T.sb, 4, none⟩)) hG rfl ?_
                              simp [slotOf] at h1
                              simp [execOp, go_sem, h1]
                            · intro a W hG hR hO hp
                              have h99 : slotOf a 99 = .pointer (some ⟨T.sb, 4, none⟩) := hp.1
                              have c0 := keep_cell s4 hG
                              refine kY (v := .slice (some ⟨br, orr, none⟩) T.y.s.reads.length T.y.rc) hG rfl ?_
                              simp [slotOf] at h99
                              simp [execOp, go_sem, h99, c0]
                            · exact fun a W hG _ hO _ => kM 0 rfl (hO.slot 0 (by kernel_rfl)) rfl hG
                            · intro a W hG hR hO hp
                              have h100 : slotOf a 100 = .slice (some ⟨br, orr, none⟩) T.y.s.reads.length T.y.rc := hp.1
                              have h101 : slotOf a 101 = .int .i64 tool := hp.2.1
                              refine kY (v := .pointer (some ⟨br, orr + tool, none⟩)) hG rfl ?_
                              simp [slotOf] at h100 h101
                              simp [execOp, go_sem, h100, h101, hrl]
                            · intro a W hG hR hO hp
                              have h102 : slotOf a 102 = .pointer (some ⟨br, orr + tool, none⟩) := hp.1
                              have c0 := keep_cell r0 hG
                              refine kY (v := vi rd) hG rfl ?_
                              simp [slotOf] at h102
                              simp [execOp, go_sem, h102, c0]
                            · intro a W hG hR hO hp
                              have h98 : slotOf a 98 = vi hi := hp.1
                              have h103 : slotOf a 103 = vi rd := hp.2.1
                              refine kY (v := vi (hi - rd)) hG rfl ?_
                              simp [slotOf] at h98 h103
                              simp [execOp, go_sem, h98, h103, hw3]
                            · exact fun a W hG _ hO _ => kM 14 rfl (hO.slot 14 (by kernel_rfl)) rfl hG
                            · intro a W hG hR hO hp
                              have h104 : slotOf a 104 = vi (hi - rd) := hp.1
                              have h105 : slotOf a 105 = vi off := hp.2.1
                              refine kY (v := vi (hi - rd + off)) hG rfl ?_
                              simp [slotOf] at h104 h105
                              simp [execOp, go_sem, h104, h105, hw4]
                            · intro a W hG hR hO hp
                              have h10 := hO.slot 10 (by kernel_rfl)
                              refine kY (v := .pointer (some ⟨b10, 3, none⟩)) hG rfl ?_
                              simp [slotOf] at h10
                              simp [execOp, go_sem, h10]
                            · intro a W hG hR hO hp
                              have h107 : slotOf a 107 = .pointer (some ⟨b10, 3, none⟩) := hp.1
                              have c0 := keep_cell z3 hG
                              refine kY (v := vi t.turn) hG rfl ?_
                              simp [slotOf] at h107
                              simp [execOp, go_sem, h107, c0]
                            · intro a W hG hR hO hp
                              have h106 : slotOf a 106 = vi (hi - rd + off) := hp.1
                              have h108 : slotOf a 108 = vi t.turn := hp.2.1
                              refine wp_enters (f := 133) (args := #[vi (hi - rd + off), vi t.turn]) ?_ ((HD2.out W).mono ?_)
                              · simp [slotOf] at h106 h108
                                simp [go_sem, h106, h108]
                              · rintro e w' ⟨rfl, hb⟩
                                exact ⟨_, rfl, _, rfl, rfl, hb, below_next hG hb⟩
                            · intro a W hG hR hO hp
                              have h96 : slotOf a 96 = vi k := hp.1
                              have h109 : slotOf a 109 = vi k1 := hp.2.1
                              refine kY (v := .bool true) hG rfl ?_
                              simp [slotOf] at h96 h109
                              simp [execOp, go_sem, h96, h109, hle]
                            · exact fun a W hG _ _ hp => kM 110 rfl hp.1 rfl hG
                            · intro a W hG hR hO hp
                              have h3 := hO.slot 3 (by kernel_rfl)
                              have c0 := keep_cell f0 hG
                              refine kY (v := .bool true) hG rfl ?_
                              simp [slotOf] at h3
                              simp [execOp, go_sem, h3, c0]
                          · intro wz hG hR
                            rintro _ rfl _ rfl _ rfl _ rfl _ rfl _ rfl _ rfl _ rfl _ rfl _ rfl _ rfl _ rfl _ rfl _ rfl _ rfl _ rfl _ rfl
                            change wpList _ _ _ _ _ _
                            simp only [Act.put, List.setIfInBounds_toArray, List.set_cons_zero, List.set_cons_succ, List.drop_succ_cons, List.drop_zero]
                            have hm2 := HJ.out.2.2.1.next hT hG
                            have b0 := hm2.tb.at 0 (v := .slice (some ⟨T.q, 0, none⟩) (ks.set tool o).length (ks.set tool o).length) rfl
                            rw [List.length_set] at b0
                            have q0 := q_at hm2.q (k := tool) (o := o) (by rw [List.getElem?_set_self (by rw [HK.out.2.ln]; exact hlt)])
                            have qf := hm2.q.free tool
                            have hkl : (tool : Int) < ks.length := by rw [HK.out.2.ln]; omega
                            have hms := hm2.setQ hT tool (some k)
                            rw [List.set_set] at hms
                            have f6 := hms.nb.at 0 (v := .func (.func 131) #[] (fpC T)) rfl
                            have HMV := Lib.hid (((HJ.out.2.2.2.1.trans HJ.out.2.2.2.2.1 HJ.out.2.2.2.2.2.1 (MovF.ofNewer T _ _ hG)).trans HJ.out.2.2.2.2.1 HJ.out.2.2.2.2.2.1 (MovF.ofGrown (d := T.q) (grown_set (p := ⟨T.q, tool, none⟩) (grown_refl wz _) (.inl rfl) (vi (koN (some k)))) (.inl rfl))))
                            have HRC := Lib.hid (HIH.out r rfl (tool + 1) (ks.set tool (some k)) (S ++ (frtoL k0 (k - 1)).flatMap f) xs' ls' A1' c1' A2' c2' (wz.setCell ⟨T.q, tool, none⟩ (vi (koN (some k)))) (by have := HK.out.1; omega) ⟨by rw [List.length_set]; exact HK.out.2.ln, fun j hj => by
                              rw [List.getD_eq_getElem?_getD, List.getElem?_set_ne (by omega), ← List.getD_eq_getElem?_getD]
                              exact HK.out.2.fr j (by omega), fun o' ho' k' hk' => by
                              rcases List.mem_or_eq_of_mem_set ho' with h | h
                              · exact HK.out.2.bd o' h k' hk'
                              · rw [h] at hk'
                                injection hk' with hk'
                                have := HKK.out
                                omega, fun j t' hj ht' hne => by
                              by_cases e : j = tool
                              · rw [e]
                                exact ⟨k, by rw [List.getElem?_set_self (by rw [HK.out.2.ln]; exact hlt)]⟩
                              · rw [List.getElem?_set_ne (by omega)]
                                exact HK.out.2.kn j t' (by omega) ht' hne⟩ hms)
                            have HWB := Lib.hid (show Whole (wz.setCell ⟨T.q, tool, none⟩ (vi (koN (some k)))) b10 112 (tlC t) ∧ Whole (wz.setCell ⟨T.q, tool, none⟩ (vi (koN (some k)))) b11 130 #[vi lo, vi hi] ∧ T.base ≤ b11 from by
                              have hq := hT.o6; have hq2 := hT.o7; have hq3 := hT.o8
                              have h1 := HB10.out
                              have h2 := HB12.out
                              exact ⟨(HJ.out.2.2.2.2.2.2.1.below hG HJ.out.2.2.2.2.2.2.1.lt).far (p := ⟨T.q, tool, none⟩) (by show b10 ≠ T.q; omega) _, (HJ.out.2.2.2.2.2.2.2.below hG HJ.out.2.2.2.2.2.2.2.lt).far (p := ⟨T.q, tool, none⟩) (by show b11 ≠ T.q; omega) _, by omega⟩)
                            have HMS := Lib.hid hms
                            clear hG hR hm2 hms
                            have hkn : koN (some k) = k := rfl
                            rw [hkn] at HRC HMV HWB f6 HMS
                            simp only [fpC, List.append_toArray, List.cons_append, List.nil_append] at HRC f6
                            go_wp2_with fail
                            refine (HRC.out).mono ?_
                            rintro e W' ⟨⟨v, rfl⟩, xs2, ls2, B1, d1, B2, d2, hm', hmv', hl1', hl2'⟩
                            have HE := Lib.hid (show FdM T (ks.set tool (some k)) (S ++ (frtoL k0 (k + 1 - 1)).flatMap f) xs2 ls2 B1 d1 B2 d2 W' ∧ MovF T (own1 A1 xs.length c1) (own1 A2 ls.length c2) we W' ∧ LinkO (own1 A1 xs.length c1) (own1 B1 xs2.length d1) we ∧ LinkO (own1 A2 ls.length c2) (own1 B2 ls2.length d2) we ∧ Whole W' b10 112 (tlC t) ∧ Whole W' b11 130 #[vi lo, vi hi] from by
                              refine ⟨?_, HMV.out.trans HJ.out.2.2.2.2.1 HJ.out.2.2.2.2.2.1 hmv', HJ.out.2.2.2.2.1.trans hl1' HMV.out.size, HJ.out.2.2.2.2.2.1.trans hl2' HMV.out.size, hmv'.whole HMS.out hT HWB.out.1 HB10.out (by decide) (by decide), hmv'.whole HMS.out hT HWB.out.2.1 HWB.out.2.2 (by decide) (by decide)⟩
                              rw [show k + 1 - 1 = k by omega, frto_snoc HJ.out.1, List.flatMap_append, List.flatMap_singleton, ← List.append_assoc]
                              rw [HFF.out] at hm' ⊢
                              exact hm')
                            clear hm' hmv' hl1' hl2'
                            have hkb2 := HKK.out
                            go_wp2_with fail
                            go_roundw
                            case rel => exact ⟨k + 1, some k, xs2, ls2, B1, d1, B2, d2, by go_num, by have := HJ.out.1; omega, by omega, HE.out.1, HE.out.2.1, HE.out.2.2.1, HE.out.2.2.2.1, HE.out.2.2.2.2.1, HE.out.2.2.2.2.2⟩
                            case measure => simp [intOf]; omega
theorem find_any (T : FP) (hT : FpOk T) : ∀ r, FindC T r
  | 0 => find_step T hT 0 (fun r' h => by cases h)
  | r + 1 => find_step T hT (r + 1) (fun r' h => by
    injection h with h
    rw [← h]
    exact find_any T hT r)

end Go.Proofs.Ytpmafnifgegfbaa
