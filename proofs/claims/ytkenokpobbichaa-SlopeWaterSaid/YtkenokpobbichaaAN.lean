/- All surfaces that begin so, by the reference. -/
import Derived.Test.YtkenokpobbichaaAM
import Derived.Test.YtkenokpobbichaaAI
namespace Go.Proofs.Ytkenokpobbichaa
open Go.RowKit Go.Shelf Go.Deep

def vNilB (H : Nat) (v : Value) (W : World) : Prop := ∃ nb, v = .slice (some ⟨nb, 0, none⟩) 0 0 ∧ H ≤ nb ∧ Whole W nb 3 #[]
def vTwoB (H : Nat) (l : List Int) (y : Int) (v : Value) (W : World) : Prop := ∃ g c, v = .slice (some ⟨g, 0, none⟩) (l.length + 1) c ∧ W.ownsRow H 3 1 (.slice (some ⟨g, 0, none⟩) (l.length + 1) c) (l.length + 1) ((l ++ [y]).flatMap intL)
/-- The surface with one bed more. -/
def vSub (H : Nat) (u : Su) (y : Int) (v : Value) (W : World) : Prop := ∃ u2 : Su, v = suV u2 ∧ u2.frm = u.frm ∧ u2.beds = u.beds ++ [y] ∧ SuOk u2 W ∧ ∀ ad, u2.a = some ad → H ≤ ad.block
/-- Surfaces in memory, their rows from H on. -/
def vSurfs (H : Nat) (L : List (Int × List Int)) (v : Value) (W : World) : Prop := ∃ us A c, v = .slice A (us : List Su).length c ∧ Row suL 2 W W.heap.size A us ∧ SfIn H none us W ∧ us.map suK = L
theorem vNilB_st {H : Nat} : ∀ v W W', vNilB H v W → newer W W' → vNilB H v W' := fun _ _ _ ⟨nb, e, h1, h2⟩ hb => ⟨nb, e, h1, h2.below hb h2.lt⟩
theorem vTwoB_st {H : Nat} {l : List Int} {y : Int} : ∀ v W W', vTwoB H l y v W → newer W W' → vTwoB H l y v W' := fun _ _ _ ⟨g, c, e, h⟩ hb => ⟨g, c, e, own_below h hb⟩
theorem vSub_st {H : Nat} {u : Su} {y : Int} : ∀ v W W', vSub H u y v W → newer W W' → vSub H u y v W' := fun _ _ _ ⟨u2, h1, h2, h3, h4, h5⟩ hb => ⟨u2, h1, h2, h3, h4.next hb, h5⟩
theorem vSurfs_st {H : Nat} {L : List (Int × List Int)} : ∀ v W W', vSurfs H L v W → newer W W' → vSurfs H L v W' := fun _ _ _ ⟨us, A, c, h1, h2, h3, h4⟩ hb => ⟨us, A, c, h1, (h2.below hb).more hb.size, h3.next hb, h4⟩
theorem SfIn.high {B H : Nat} {a : Option Addr} {us : List Su} {W : World} (h : SfIn B a us W) (hB : H ≤ B) (ha : ∀ ad, a = some ad → H ≤ ad.block) : SfIn H none us W := ⟨h.ok, h.ne, fun x hx ad had => .inl (by
  rcases h.hi x hx ad had with h1 | h1
  · omega
  · exact ha ad (by rw [← h1]; exact had))⟩
theorem suL_one : ∀ (x : Su), ∀ u ∈ suL x, u.oneCell' = true := fun x u hu => by
  simp [suL] at hu
  rcases hu with rfl | rfl <;> rfl
/-- What Surfaces returns. -/
def surfOut (H : Nat) (a : Option Addr) (L : List (Int × List Int)) (e : Ending) (w' : World) : Prop := ∃ us A c, e = .returned (.slice A (us : List Su).length c) ∧ Row suL 2 w' w'.heap.size A us ∧ SfIn H a us w' ∧ us.map suK = L
def SurfsAt (s : Sm) (k r : Nat) : Prop := ∀ (l : List Nat) (u : Su) (w : World), SmOk s w → SuOk u w → u.frm = k → u.beds = l.map (fun x : Nat => (x : Int)) → wayB s.sd.n l → k + l.length + r = s.cs.length →
  Calls Try.prog 69 #[smV s, suV u] w fun e w' => surfOut w.heap.size u.a ((surfsR s.sd.n s.cs.length s.sd.K k r l).map (suN k)) e w' ∧ newer w w'
theorem SfIn.low {B H : Nat} {a : Option Addr} {us : List Su} {W : World} (h : SfIn B a us W) (hH : H ≤ B) : SfIn H a us W := ⟨h.ok, h.ne, fun x hx ad had => (h.hi x hx ad had).imp (fun h1 => Nat.le_trans hH h1) id⟩
theorem SfJ.out {H B : Nat} {a : Option Addr} {L : List (Int × List Int)} {us : List Su} {A : Option Addr} {c : Nat} {W : World} (h : SfJ B a L us A c W) (hH : H ≤ B) : surfOut H a L (.returned (.slice A us.length c)) W := ⟨us, A, c, rfl, row_of_own (by omega) (fun _ => rfl) h.own, h.sin.low hH, h.eq⟩
theorem row_su {W : World} {g : Nat} {t : TypeId} {u : Su} (h : Whole W g t (suC u)) : Row suL 2 W W.heap.size (some ⟨g, 0, none⟩) [u] := by
  intro _
  refine ⟨g, 0, rfl, h.lt, fun i y hy j v hv => ?_⟩
  rcases i with _ | i
  · simp at hy
    subst hy
    have := h.at j (v := v) (by simpa [suL, suC] using hv)
    simpa using this
  · simp at hy
set_option maxRecDepth 100000 in
set_option maxHeartbeats 1000000 in
theorem surfs_step (s : Sm) (hs : SdOk s.sd) (k r : Nat) (ih : ∀ q, r = q + 1 → SurfsAt s k q) : SurfsAt s k r := by
  intro l u w hok hu hf hl hw hr
  have hcl : s.cs.length ≤ 12 ∧ 1 ≤ s.cs.length := by have h1 := hs.cols; rw [sd_len] at h1; omega
  have hul : u.beds.length = l.length := by rw [hl, List.length_map]
  have hnw : newer w ((w.alloc (.cells (smC s) 24)).alloc (.cells (suC u) 27)) := newer_trans (newer_allocH _ _) (newer_allocH _ _)
  have hxb := (Whole.made w 24 (smC s)).alloc (.cells (suC u) 27)
  have hub := Whole.made (w.alloc (.cells (smC s) 24)) 27 (suC u)
  rw [World.size_alloc] at hub
  have H0 := Lib.hid (And.intro hnw (And.intro hxb hub))
  obtain ⟨y0, hy0⟩ := get_of_lt (l := s.cs) (k := 0) (by omega)
  have hyn : y0.beds.length = s.sd.n := (sd_n hy0).symm
  obtain ⟨b1, o1, ea, _, cy⟩ := rowC hok.cs hy0
  simp only [Nat.add_zero] at cy
  obtain ⟨n, hn⟩ : ∃ n, n = s.sd.n := ⟨_, rfl⟩
  have hnb : 1 ≤ n ∧ n ≤ 5 := by rw [hn]; exact hs.beds
  rw [hyn, ← hn] at cy
  have HCY := Lib.hid cy
  have HSA := Lib.hid ea
  have HU := Lib.hid hu
  have HUL := Lib.hid (show u.beds.length ≤ 1000 by omega)
  have hcne : ¬ (s.cs = []) := by intro h; rw [h] at hcl; simp at hcl
  have x0 := hxb.at 0 (v := .slice s.a s.cs.length s.c) rfl
  rw [ea] at x0
  have x1 := hxb.at 1 (v := vi s.least) rfl
  have u0 := hub.at 0 (v := vi u.frm) rfl
  have u1 := hub.at 1 (v := .slice u.a u.beds.length u.c) rfl
  obtain ⟨i0, hi0, hz0, hz1, hz2⟩ := info_parts info_int
  have HI := Lib.hid (And.intro hi0 (And.intro hz0 (And.intro hz1 hz2)))
  obtain ⟨i1, hi1, hy1, hy2, hy3⟩ := info_parts info_su
  have HI1 := Lib.hid (And.intro hi1 (And.intro hy1 (And.intro hy2 hy3)))
  have HSD := Lib.hid hs
  have HOK := Lib.hid hok
  have c26 : IntKind.i64.wrap (u.frm + (u.beds.length : Int)) = u.frm + (u.beds.length : Int) := IntWalk.i64_in _ (by omega)
  have HP0 := Lib.hid (And.intro hf (And.intro hl (And.intro hw (And.intro hr hn))))
  have HIH0 := Lib.hid ih
  have hsize : w.heap.size ≤ w.heap.size := Nat.le_refl _
  by_cases hln : l = []
  · have hl0 : u.beds.length = 0 := by rw [hul, hln]; rfl
    have c26e : IntKind.i64.wrap u.frm = u.frm := IntWalk.i64_in _ (by omega)
    have c26f : wrap64 u.frm = u.frm := by unfold wrap64; omega
    clear c26
    clear hok hu hs hnw hxb hub hy0 hyn ea hi0 hz0 hz1 hz2 hi1 hy1 hy2 hy3 hsize cy hf hl hw hr hn
    have HS0 : Hid (SfJ (w.heap.size + 2) u.a ((ownS s.cs.length s.sd.K k l).map (suN k)) [] none 0 ((w.alloc (.cells (smC s) 24)).alloc (.cells (suC u) 27))) := Lib.hid (by rw [hln, own_nil]; exact SfJ.none _ _ _)
    by_cases hr0 : r = 0
    · subst hr0
      have hge : (s.cs.length : Int) ≤ u.frm + (u.beds.length : Int) := by have h1 := HP0.out.1; have h2 := HP0.out.2.2.2.1; have h3 := congrArg List.length HP0.out.2.1; rw [List.length_map] at h3; omega
      have hge2 : (s.cs.length : Int) ≤ u.frm := by omega
      go_enter Try.func69, Try.ntmps69
      go_wp2_with fail
      go_ret
      exact ⟨HS0.out.out (Nat.le_add_right _ _), H0.out.1⟩
    · obtain ⟨q, rfl⟩ : ∃ q, r = q + 1 := ⟨r - 1, by omega⟩
      have hge : ¬ (s.cs.length : Int) ≤ u.frm + (u.beds.length : Int) := by have h1 := HP0.out.1; have h2 := HP0.out.2.2.2.1; have h3 := congrArg List.length HP0.out.2.1; rw [List.length_map] at h3; omega
      have hge2 : ¬ (s.cs.length : Int) ≤ u.frm := by omega
      have HI0 := Lib.hid (And.intro HOK.out (HIH0.out q rfl))
      have HPL := Lib.hid (And.intro HP0.out.1 (And.intro HP0.out.2.1 (And.intro HP0.out.2.2.1 (And.intro HP0.out.2.2.2.1 (And.intro HP0.out.2.2.2.2 (And.intro (show s.sd.n ≤ 5 by rw [← HP0.out.2.2.2.2]; exact hnb.2) (show q ≤ 12 by have := HP0.out.2.2.2.1; omega)))))))
      clear HIH0
      go_enter Try.func69, Try.ntmps69
      go_wp2_with fail
      go_loopw [5, 6] (fun s5 s6 wr => ∃ (i : Nat) (us : List Su) (A : Option Addr) (c : Nat), i ≤ n ∧ s5 = .slice A us.length c ∧ s6 = vi i ∧ SfJ (w.heap.size + 2) u.a ((partS s.sd.n s.cs.length s.sd.K k q l i).map (suN k)) us A c wr ∧ newer w wr ∧ Whole wr w.heap.size 24 (smC s) ∧ Whole wr (w.heap.size + 1) 27 (suC u) ∧ w.heap.size + 2 ≤ wr.heap.size) (fun _ s6 _ => n - (intOf s6).toNat)
      case atStart => exact ⟨0, [], none, 0, Nat.zero_le _, rfl, rfl, HS0.out, H0.out.1, H0.out.2.1, H0.out.2.2, by simp [World.size_alloc]⟩
      case round =>
        obtain ⟨i, us, A, c, hi, rfl, rfl, hj, q2, q3, q4, q5⟩ := hrel
        clear x0 x1 u0 u1 H0 HS0
        have HJ := Lib.hid hj
        have HQ := Lib.hid (And.intro hi (And.intro q2 (And.intro q3 q4)))
        have HN0 := Lib.hid q5
        have cy := keep_cell HCY.out q2
        have x0 := q3.at 0 (v := .slice s.a s.cs.length s.c) rfl
        rw [HSA.out] at x0
        have x1 := q3.at 1 (v := vi s.least) rfl
        have u0 := q4.at 0 (v := vi u.frm) rfl
        have u1 := q4.at 1 (v := .slice u.a u.beds.length u.c) rfl
        clear hj q2 q3 q4 q5
        by_cases hlt : i < n
        · have hlti : (i : Int) < n := by omega
          have hni : partS.nearB l i = true := by rw [hln]; rfl
          have HIH : Hid (∀ (u2 : Su) (W : World), newer w W → SuOk u2 W → u2.frm = u.frm → u2.beds = u.beds ++ [(i : Int)] → Calls Try.prog 69 #[smV s, suV u2] W fun e w' => surfOut W.heap.size u2.a ((surfsR s.sd.n s.cs.length s.sd.K k q (l ++ [i])).map (suN k)) e w' ∧ newer W w') := Lib.hid (fun u2 W hW hu2 hf2 hl2 => HI0.out.2 (l ++ [i]) u2 W (HI0.out.1.next hW) hu2 (by rw [hf2]; exact HPL.out.1) (by rw [hl2, HPL.out.2.1, List.map_append]; rfl) (way_snoc l i (by rw [← HPL.out.2.2.2.2.1]; exact hlt) HPL.out.2.2.1 (near_iff.1 hni)) (by rw [List.length_append, List.length_singleton]; have := HPL.out.2.2.2.1; omega))
          obtain ⟨LL, hLL⟩ : ∃ LL, LL = (surfsR s.sd.n s.cs.length s.sd.K k q (l ++ [i])).map (suN k) := ⟨_, rfl⟩
          rw [← hLL] at HIH
          have HLL := Lib.hid (And.intro hLL hni)
          clear hLL hni
          go_upto_region 11 with fail
          clear u1 x0
          have x0 := HQ.out.2.2.1.at 0 (v := .slice s.a s.cs.length s.c) rfl
          have u1 := HQ.out.2.2.2.at 1 (v := .slice u.a u.beds.length u.c) rfl
          have HST : Hid (∀ ii v W W', pickD [vIs (.slice A us.length c), vIs (smV s), vIs (.pointer (some ⟨w.heap.size + 1, 0, none⟩)), vIs (vi u.frm), vNilB wr.heap.size, vIs (.pointer (some ⟨w.heap.size + 1, 1, none⟩)), vIs (.slice u.a u.beds.length u.c), vCopyB wr.heap.size u.beds, vIs (vi (i : Int)), vOneB wr.heap.size (i : Int), vTwoB wr.heap.size u.beds (i : Int), vSub wr.heap.size u (i : Int), vSurfs wr.heap.size LL] ii v W → newer W W' → pickD [vIs (.slice A us.length c), vIs (smV s), vIs (.pointer (some ⟨w.heap.size + 1, 0, none⟩)), vIs (vi u.frm), vNilB wr.heap.size, vIs (.pointer (some ⟨w.heap.size + 1, 1, none⟩)), vIs (.slice u.a u.beds.length u.c), vCopyB wr.heap.size u.beds, vIs (vi (i : Int)), vOneB wr.heap.size (i : Int), vTwoB wr.heap.size u.beds (i : Int), vSub wr.heap.size u (i : Int), vSurfs wr.heap.size LL] ii v W') := Lib.hid (pickD_stable _ ⟨vIs_st, vIs_st, vIs_st, vIs_st, vNilB_st, vIs_st, vIs_st, vCopyB_st, vIs_st, vOneB_st, vTwoB_st, vSub_st, vSurfs_st, trivial⟩)
          refine wp_words (by kernel_rfl) (region_live 13 (by kernel_rfl) (by kernel_rfl) (fun W => Below wr.heap.size wr W) (relTwo wr.heap.size 10 10) [none, none, none, none, some 7, none, none, some 10, none, some 10, some 11, none, none] (pickD [vIs (.slice A us.length c), vIs (smV s), vIs (.pointer (some ⟨w.heap.size + 1, 0, none⟩)), vIs (vi u.frm), vNilB wr.heap.size, vIs (.pointer (some ⟨w.heap.size + 1, 1, none⟩)), vIs (.slice u.a u.beds.length u.c), vCopyB wr.heap.size u.beds, vIs (vi (i : Int)), vOneB wr.heap.size (i : Int), vTwoB wr.heap.size u.beds (i : Int), vSub wr.heap.size u (i : Int), vSurfs wr.heap.size LL]) ?_ (Below.refl _ wr).drew ?_ ?_)
          · intro listed i j v W W' hi hj hui hlj hpi hcl hk hD hR
            by_cases h5 : i = 10
            · subst h5
              obtain rfl | rfl | rfl | rfl | rfl | rfl | rfl | rfl | rfl | rfl | rfl | rfl | rfl | hj9 : j = 0 ∨ j = 1 ∨ j = 2 ∨ j = 3 ∨ j = 4 ∨ j = 5 ∨ j = 6 ∨ j = 7 ∨ j = 8 ∨ j = 9 ∨ j = 10 ∨ j = 11 ∨ j = 12 ∨ 13 ≤ j := by omega
              · exact hD
              · exact hD
              · exact hD
              · exact hD
              · have h1 := (hk 7 (by kernel_rfl)).2
                rw [hpi 7 (by kernel_rfl)] at h1
                cases h1
              · exact hD
              · exact hD
              · exact absurd rfl (hk 10 (by kernel_rfl)).1
              · exact hD
              · exact absurd rfl (hk 10 (by kernel_rfl)).1
              · exact absurd rfl hj
              · rw [show listed.getD 10 false = true from (hcl 11 10 (by omega) (by kernel_rfl) hlj)] at hui
                cases hui
              · rw [show listed.getD 10 false = true from (hcl 11 10 (by omega) (by kernel_rfl) (hcl 12 11 (by omega) (by kernel_rfl) hlj))] at hui
                cases hui
              · obtain ⟨m, rfl⟩ : ∃ m, j = m + 13 := ⟨j - 13, by omega⟩
                exact trivial
            · have hrl : relTwo wr.heap.size 10 10 i = newer := by
                unfold relTwo
                rw [show (Nat.beq i 10 || Nat.beq i 10) = false by
                  cases h1 : Nat.beq i 10
                  · rfl
                  · exact absurd (Nat.eq_of_beq_eq_true h1) h5]
              rw [hrl] at hR
              exact HST.out j v W W' hD hR
          · refine ⟨?_, ?_, ?_, ?_, ?_, ?_, ?_, ?_, ?_, ?_, ?_, ?_, ?_, trivial⟩
            · intro listed a W hun hG hO hp
              have h5 := hO.slot 5 (by kernel_rfl)
              refine wp_yields (v := .slice A us.length c) ?_ ⟨_, rfl, rfl, newer_refl _, hG⟩
              simp [slotOf] at h5
              simp [execOp, go_sem, h5]
            · intro listed a W hun hG hO hp
              have h2 := hO.slot 2 (by kernel_rfl)
              have c0 := keep_cell x0 hG
              have c1 := keep_cell x1 hG
              refine wp_yields (v := smV s) ?_ ⟨_, rfl, rfl, newer_refl _, hG⟩
              simp [slotOf] at h2
              simp [execOp, go_sem, h2, c0, c1]
            · intro listed a W hun hG hO hp
              have h3 := hO.slot 3 (by kernel_rfl)
              refine wp_yields (v := (.pointer (some ⟨w.heap.size + 1, 0, none⟩))) ?_ ⟨_, rfl, rfl, newer_refl _, hG⟩
              simp [slotOf] at h3
              simp [execOp, go_sem, h3]
            · intro listed a W hun hG hO hp
              have h59 : slotOf a 59 = (.pointer (some ⟨w.heap.size + 1, 0, none⟩)) := hp.1
              have c0 := keep_cell u0 hG
              refine wp_yields (v := vi u.frm) ?_ ⟨_, rfl, rfl, newer_refl _, hG⟩
              simp [slotOf] at h59
              simp [execOp, go_sem, h59, c0]
            · intro listed a W hun hG hO hp
              refine wp_makes (v := .slice (some ⟨W.heap.size, 0, none⟩) 0 0) (W' := W.alloc (.cells #[] 3)) ?_ ⟨_, rfl, ⟨_, rfl, hG.size, Whole.made _ _ _⟩, newer_allocH _ _, hG.alloc hG.size _⟩
              simp [execOp, go_sem]
            · intro listed a W hun hG hO hp
              have h3 := hO.slot 3 (by kernel_rfl)
              refine wp_yields (v := (.pointer (some ⟨w.heap.size + 1, 1, none⟩))) ?_ ⟨_, rfl, rfl, newer_refl _, hG⟩
              simp [slotOf] at h3
              simp [execOp, go_sem, h3]
            · intro listed a W hun hG hO hp
              have h62 : slotOf a 62 = (.pointer (some ⟨w.heap.size + 1, 1, none⟩)) := hp.1
              have c0 := keep_cell u1 hG
              refine wp_yields (v := .slice u.a u.beds.length u.c) ?_ ⟨_, rfl, rfl, newer_refl _, hG⟩
              simp [slotOf] at h62
              simp [execOp, go_sem, h62, c0]
            · intro listed a W hun hG hO hp
              have h61 : listed.getD 7 false = false → vNilB wr.heap.size (slotOf a 61) W := hp.1
              have h63 : slotOf a 63 = (.slice u.a u.beds.length u.c) := hp.2.1
              obtain ⟨nb, h61, hnb, hW⟩ := h61 hun
              obtain ⟨hi0, hz0, hz1, hz2⟩ := HI.out
              refine wp_append_owncopy (enc := intL) (size := 1) wr.heap.size (.tmp 61) (.tmp 63) 25 3 i0 (.int .i64 0) 8 Try.underlying25 hi0 hz0 hz1 hz2 rfl (by omega) (by omega) (fun _ => rfl) rfl nb ((eval_slot a 61).trans h61) hnb hW u.beds u.a u.c ((eval_slot a 63).trans h63) HUL.out (HU.out.next (newer_trans HQ.out.2.1 hG)) hG.size ?_
              intro B c w1 ho hb _
              exact ⟨_, rfl, ⟨B, c, rfl, ho⟩, hb, below_next hG hb⟩
            · intro listed a W hun hG hO hp
              have h6 := hO.slot 6 (by kernel_rfl)
              refine wp_yields (v := vi (i : Int)) ?_ ⟨_, rfl, rfl, newer_refl _, hG⟩
              simp [slotOf] at h6
              simp [execOp, go_sem, h6]
            · intro listed a W hun hG hO hp
              have h65 : slotOf a 65 = (vi (i : Int)) := hp.1
              refine wp_makes (v := .slice (some ⟨W.heap.size, 0, none⟩) 1 1) (W' := W.alloc (.cells #[vi (i : Int)] 3)) ?_ ⟨_, rfl, ⟨_, rfl, hG.size, Whole.made _ _ _⟩, newer_allocH _ _, hG.alloc hG.size _⟩
              simp [slotOf] at h65
              simp [execOp, go_sem, h65]
            · intro listed a W hun hG hO hp
              have h64 : listed.getD 10 false = false → vCopyB wr.heap.size u.beds (slotOf a 64) W := hp.1
              have h66 : listed.getD 10 false = false → vOneB wr.heap.size (i : Int) (slotOf a 66) W := hp.2.1
              obtain ⟨B, c, h64, ho⟩ := h64 hun
              obtain ⟨nb, h66, hnb, hW⟩ := h66 hun
              obtain ⟨hi0, hz0, hz1, hz2⟩ := HI.out
              have hl8 := HUL.out
              refine wp_append_one (.tmp 64) (.tmp 66) 25 rfl wr.heap.size 3 i0 (.int .i64 0) 8 Try.underlying25 hi0 hz0 hz1 hz2 rfl B u.beds.length c (u.beds.flatMap intL) ((eval_slot a 64).trans h64) ho ⟨nb, 0, none⟩ 1 (vi (i : Int)) ((eval_slot a 66).trans h66) (hW.at 0 rfl) rfl (by unfold maxLen; omega) (by omega) hG.size ?_
              intro g c' w1 hown hon
              have hB : Below wr.heap.size W w1 := by
                rcases hon with ⟨-, -, hg⟩ | ⟨-, hg⟩
                · exact below_of_grown hg (own_ge_slice hown) hG.size
                · exact below_of_grown (hg.but (some g)) (own_ge_slice hown) hG.size
              exact ⟨_, rfl, ⟨g, c', rfl, by rw [flatB_snoc]; exact hown⟩, hB, hG.trans hB⟩
            · intro listed a W hun hG hO hp
              have h60 : slotOf a 60 = (vi u.frm) := hp.1
              have h67 : listed.getD 11 false = false → vTwoB wr.heap.size u.beds (i : Int) (slotOf a 67) W := hp.2.1
              obtain ⟨g, c, h67, ho⟩ := h67 hun
              have hge := own_ge_slice ho
              have hok := row_of_own (enc := intL) (size := 1) (by omega) (fun _ => rfl) ho
              refine wp_yields (v := suV ⟨u.frm, u.beds ++ [(i : Int)], some ⟨g, 0, none⟩, c⟩) ?_ ⟨_, rfl, ⟨⟨u.frm, u.beds ++ [(i : Int)], some ⟨g, 0, none⟩, c⟩, rfl, rfl, rfl, hok, fun ad had => by injection had with had; rw [← had]; exact hge⟩, newer_refl _, hG⟩
              simp [slotOf] at h60 h67
              simp [execOp, go_sem, h60, h67]
            · intro listed a W hun hG hO hp
              have h58 : slotOf a 58 = (smV s) := hp.1
              have h68 : vSub wr.heap.size u (i : Int) (slotOf a 68) W := hp.2.1
              obtain ⟨u2, h68, hf2, hl2, hu2, hge2⟩ := h68
              refine wp_enters (f := 69) (args := #[smV s, suV u2]) ?_ ((HIH.out u2 W (newer_trans HQ.out.2.1 hG) hu2 hf2 hl2).mono ?_)
              · simp [slotOf] at h58 h68
                simp [go_sem, h58, h68]
              · rintro e w' ⟨⟨vs, A2, c2, rfl, hrv, hvi, hve⟩, hb⟩
                exact ⟨_, rfl, _, rfl, ⟨vs, A2, c2, rfl, hrv, hvi.high hG.size hge2, hve⟩, hb, below_next hG hb⟩
          · intro wz hG
            rintro _ rfl _ rfl _ rfl _ rfl _ - _ rfl _ rfl _ - _ rfl _ - _ - _ - _ ⟨vs, A2, c2, rfl, hrv, hvi, hve⟩
            change wpList _ _ _ _ _ _
            simp only [Act.put, List.setIfInBounds_toArray, List.set_cons_zero, List.set_cons_succ, List.drop_succ_cons, List.drop_zero]
            have HR2 := Lib.hid (And.intro hrv (And.intro hvi hve))
            have HJ2 := Lib.hid (And.intro (HJ.out.next hG) (And.intro (newer_trans HQ.out.2.1 hG) (And.intro (HQ.out.2.2.1.below hG HQ.out.2.2.1.lt) (And.intro (HQ.out.2.2.2.below hG HQ.out.2.2.2.lt) hG))))
            have hfb : us.length + vs.length ≤ 13060694017 := by
              have h1 := part_few (cols := s.cs.length) (K := s.sd.K) (k := k) (r := q) (n := s.sd.n) HPL.out.2.2.2.2.2.1 HPL.out.2.2.2.2.2.2 (l := l) (i := i) (by have := HPL.out.2.2.2.2.2.1; rw [← HPL.out.2.2.2.2.1] at this; omega)
              have h2 := surfs_few12 (cols := s.cs.length) (K := s.sd.K) (k := k) (r := q) (n := s.sd.n) HPL.out.2.2.2.2.2.1 HPL.out.2.2.2.2.2.2 (l ++ [i])
              have h3 : us.length = (partS s.sd.n s.cs.length s.sd.K k q l i).length := by have := congrArg List.length HJ.out.eq; simpa using this
              have h4 : vs.length = (surfsR s.sd.n s.cs.length s.sd.K k q (l ++ [i])).length := by have := congrArg List.length (HR2.out.2.2.trans HLL.out.1); simpa using this
              omega
            have HFB := Lib.hid hfb
            have hfar : ∀ x ∈ vs, ∀ ad, x.a = some ad → (Value.slice A us.length c).ownBlock ≠ some ad.block := fun x hx ad had e => by
              have h1 := own_lt HJ.out.own _ e
              rcases HR2.out.2.1.hi x hx ad had with h2 | h2
              · omega
              · rw [had] at h2
                cases h2
            have HFR := Lib.hid hfar
            clear hrv hvi hve hG HJ HQ HIH HST hfb hfar x0 x1 u0 u1
            skip
            go_wp2_with (at_builtin; go_loud ((refine wpList_plain rfl fun _ hK => wp_append_all (enc := suL) (size := 2) (w.heap.size + 2) (.tmp 57) (.tmp 69) 49 27 i1 (.agg #[vi 0, .slice none 0 0]) 32 Try.underlying49 HI1.out.1 HI1.out.2.1 HI1.out.2.2.1 HI1.out.2.2.2 rfl (by omega) (fun _ => rfl) suL_one rfl A us.length c (us.flatMap suL) rfl HJ2.out.1.own vs A2 c2 rfl HR2.out.1 (by have := HFB.out; unfold maxLen; omega) (by have := HFB.out; omega) (by have := HN0.out; have := HJ2.out.2.2.2.2.size; omega) fun B c3 w5 hown hgr hat => hK _ _ ?_); have HE := Lib.hid (And.intro (HJ2.out.1.app (a := u.a) ⟨HR2.out.2.1.ok, HR2.out.2.1.ne, fun x hx ad had => .inl (by rcases HR2.out.2.1.hi x hx ad had with h2 | h2; (have := HN0.out; omega); (rw [had] at h2; cases h2))⟩ HFR.out hown hgr hat) (And.intro (HJ2.out.1.new (w := w) (Nat.le_add_right _ _) HJ2.out.2.1 hgr) (And.intro (HJ2.out.2.2.1.grown hgr (fun e => own_ne HJ2.out.1.own HJ2.out.2.2.1 (by decide) e.symm)) (HJ2.out.2.2.2.1.grown hgr (fun e => by have := own_ge HJ2.out.1.own _ e.symm; omega))))); have HSZ := Lib.hid hgr.size; clear hown hgr hat))
            refine ⟨⟨i + 1, us ++ vs, B, c3, by omega, by rw [List.length_append], rfl, ?_, HE.out.2.1, HE.out.2.2.1, HE.out.2.2.2, by have := HN0.out; have := HJ2.out.2.2.2.2.size; have := HSZ.out; omega⟩, ?_⟩
            · have h1 := HE.out.1
              rw [HR2.out.2.2, HLL.out.1, ← List.map_append] at h1
              unfold partS
              rw [if_pos HLL.out.2]
              exact h1
            · simp [intOf]
              omega
        · obtain rfl : i = n := by omega
          have HZ := HJ.out.out (H := w.heap.size) (Nat.le_add_right _ _)
          go_wp2_with fail
          go_ret
          rw [HPL.out.2.2.2.2.1, part_all] at HZ
          exact ⟨HZ, HQ.out.2.1⟩
  · have hl1 : 0 < u.beds.length := by rw [hul]; exact List.length_pos_iff.2 hln
    have hl2 : ¬ u.beds.length = 0 := by omega
    have hl1i : (0 : Int) < u.beds.length := by omega
    have hl2i : ¬ (u.beds.length : Int) = 0 := by omega
    have hub2 : u.beds ≠ [] := by intro e; rw [e] at hl1; simp at hl1
    have HB := Lib.hid (isSurface_any s u _ (hok.next hnw) (hu.next hnw) hs HUL.out)
    have HKE := Lib.hid (And.intro hxb (And.intro hub hnw))
    have HUL2 := Lib.hid hul
    clear hul
    cases hsf : surfB s.sd u.frm u.beds with
    | false =>
      rw [hsf] at HB
      have HOW : Hid (ownS s.cs.length s.sd.K k l = []) := Lib.hid (by have h := own_no hs hw (k := k) (by rw [← hf, ← hl]; exact hsf); rw [sd_len] at h; exact h)
      clear hok hu hs hnw hxb hub hy0 hyn ea hi0 hz0 hz1 hz2 hi1 hy1 hy2 hy3 hsize cy hf hl hw hr hn hsf
      by_cases hr0 : r = 0
      · subst hr0
        have hge : (s.cs.length : Int) ≤ u.frm + (u.beds.length : Int) := by have h1 := HP0.out.1; have h2 := HP0.out.2.2.2.1; have h3 := congrArg List.length HP0.out.2.1; rw [List.length_map] at h3; omega
        skip
        rw [← HSA.out] at x0
        go_enter Try.func69, Try.ntmps69
        go_wp2_with fail
        refine (HB.out).mono ?_
        rintro e w2 ⟨rfl, hb⟩
        have H2 := Lib.hid (And.intro (newer_trans HKE.out.2.2 hb) (And.intro (HKE.out.1.below hb HKE.out.1.lt) (HKE.out.2.1.below hb HKE.out.2.1.lt)))
        have HS2 : Hid (w.heap.size + 2 ≤ w2.heap.size) := Lib.hid (by have h1 := hb.size; simp only [World.size_alloc] at h1; omega)
        clear x0 x1 u0 u1 hb HB HKE H0
        have x0 := H2.out.2.1.at 0 (v := .slice s.a s.cs.length s.c) rfl
        rw [HSA.out] at x0
        have x1 := H2.out.2.1.at 1 (v := vi s.least) rfl
        have u0 := H2.out.2.2.at 0 (v := vi u.frm) rfl
        have u1 := H2.out.2.2.at 1 (v := .slice u.a u.beds.length u.c) rfl
        have HS0 : Hid (SfJ (w.heap.size + 2) u.a ((ownS s.cs.length s.sd.K k l).map (suN k)) [] none 0 w2) := Lib.hid (by rw [HOW.out]; exact SfJ.none _ _ _)
        have H0 := Lib.hid True.intro
        go_wp2_with fail
        go_ret
        exact ⟨HS0.out.out (Nat.le_add_right _ _), H2.out.1⟩
      · obtain ⟨q, rfl⟩ : ∃ q, r = q + 1 := ⟨r - 1, by omega⟩
        have hge : ¬ (s.cs.length : Int) ≤ u.frm + (u.beds.length : Int) := by have h1 := HP0.out.1; have h2 := HP0.out.2.2.2.1; have h3 := congrArg List.length HP0.out.2.1; rw [List.length_map] at h3; omega
        skip
        have HI0 := Lib.hid (And.intro HOK.out (HIH0.out q rfl))
        have HPL := Lib.hid (And.intro HP0.out.1 (And.intro HP0.out.2.1 (And.intro HP0.out.2.2.1 (And.intro HP0.out.2.2.2.1 (And.intro HP0.out.2.2.2.2 (And.intro (show s.sd.n ≤ 5 by rw [← HP0.out.2.2.2.2]; exact hnb.2) (show q ≤ 12 by have := HP0.out.2.2.2.1; omega)))))))
        clear HIH0
        rw [← HSA.out] at x0
        go_enter Try.func69, Try.ntmps69
        go_wp2_with fail
        refine (HB.out).mono ?_
        rintro e w2 ⟨rfl, hb⟩
        have H2 := Lib.hid (And.intro (newer_trans HKE.out.2.2 hb) (And.intro (HKE.out.1.below hb HKE.out.1.lt) (HKE.out.2.1.below hb HKE.out.2.1.lt)))
        have HS2 : Hid (w.heap.size + 2 ≤ w2.heap.size) := Lib.hid (by have h1 := hb.size; simp only [World.size_alloc] at h1; omega)
        clear x0 x1 u0 u1 hb HB HKE H0
        have x0 := H2.out.2.1.at 0 (v := .slice s.a s.cs.length s.c) rfl
        rw [HSA.out] at x0
        have x1 := H2.out.2.1.at 1 (v := vi s.least) rfl
        have u0 := H2.out.2.2.at 0 (v := vi u.frm) rfl
        have u1 := H2.out.2.2.at 1 (v := .slice u.a u.beds.length u.c) rfl
        have HS0 : Hid (SfJ (w.heap.size + 2) u.a ((ownS s.cs.length s.sd.K k l).map (suN k)) [] none 0 w2) := Lib.hid (by rw [HOW.out]; exact SfJ.none _ _ _)
        have H0 := Lib.hid True.intro
        go_wp2_with fail
        go_loopw [5, 6] (fun s5 s6 wr => ∃ (i : Nat) (us : List Su) (A : Option Addr) (c : Nat), i ≤ n ∧ s5 = .slice A us.length c ∧ s6 = vi i ∧ SfJ (w.heap.size + 2) u.a ((partS s.sd.n s.cs.length s.sd.K k q l i).map (suN k)) us A c wr ∧ newer w wr ∧ Whole wr w.heap.size 24 (smC s) ∧ Whole wr (w.heap.size + 1) 27 (suC u) ∧ w.heap.size + 2 ≤ wr.heap.size) (fun _ s6 _ => n - (intOf s6).toNat)
        case atStart => exact ⟨0, [], none, 0, Nat.zero_le _, rfl, rfl, HS0.out, H2.out.1, H2.out.2.1, H2.out.2.2, HS2.out⟩
        case round =>
          obtain ⟨i, us, A, c, hi, rfl, rfl, hj, q2, q3, q4, q5⟩ := hrel
          clear x0 x1 u0 u1 H0 HS0
          have HJ := Lib.hid hj
          have HQ := Lib.hid (And.intro hi (And.intro q2 (And.intro q3 q4)))
          have HN0 := Lib.hid q5
          have cy := keep_cell HCY.out q2
          have x0 := q3.at 0 (v := .slice s.a s.cs.length s.c) rfl
          rw [HSA.out] at x0
          have x1 := q3.at 1 (v := vi s.least) rfl
          have u0 := q4.at 0 (v := vi u.frm) rfl
          have u1 := q4.at 1 (v := .slice u.a u.beds.length u.c) rfl
          clear hj q2 q3 q4 q5
          by_cases hlt : i < n
          · have hlti : (i : Int) < n := by omega
            obtain ⟨km, hkm0⟩ : ∃ km, km = u.beds.length - 1 := ⟨_, rfl⟩
            obtain ⟨ub, uo, eu, d0⟩ := row1k (HU.out.next HQ.out.2.1) (k := km) (by omega)
            have HEU := Lib.hid eu
            rw [eu] at u1
            have hkm : (km : Int) < u.beds.length := by omega
            have c51 : IntKind.i64.wrap ((u.beds.length : Int) - 1) = (km : Int) := by rw [IntWalk.i64_in _ (by have := HUL.out; omega)]; omega
            obtain ⟨p, hp⟩ : ∃ p, p = iAt u.beds km := ⟨_, rfl⟩
            rw [← hp] at d0
            have hpl : iAt (l.map fun x : Nat => (x : Int)) (l.length - 1) = p := by rw [hp, HPL.out.2.1, hkm0, HUL2.out]
            have hpb : 0 ≤ p ∧ p < n := by
              obtain ⟨y, hy, rfl⟩ := last_at hln hpl
              have h1 := way_lt l (l.length - 1) y HPL.out.2.2.1 (by rw [← List.getLast?_eq_getElem?]; exact hy)
              rw [← HPL.out.2.2.2.2.1] at h1
              omega
            have c54 : IntKind.i64.wrap ((i : Int) - p) = (i : Int) - p := IntWalk.i64_in _ (by omega)
            have hnl := near_last (b := i) hln hpl
            have HC := Lib.hid (fun W => in_any ((i : Int) - p) (-1) 1 W)
            clear eu hp hpl hpb hkm0
            cases hq : inB ((i : Int) - p) (-1) 1 with
            | false =>
              rw [hq] at HC hnl
              clear hq
              go_wp2_with fail
              refine (HC.out _).mono ?_
              rintro e w2 ⟨rfl, rfl⟩
              go_wp2_with fail
              refine ⟨⟨i + 1, us, A, c, by omega, rfl, rfl, ?_, HQ.out.2.1, HQ.out.2.2.1, HQ.out.2.2.2, HN0.out⟩, ?_⟩
              · unfold partS
                rw [hnl, if_neg (by decide), List.append_nil]
                exact HJ.out
              · simp [intOf]
                omega
            | true =>
              rw [hq] at HC hnl
              have hnr := hnl
              clear hq hnl
              go_wp2_with fail
              refine (HC.out _).mono ?_
              rintro e w2 ⟨rfl, rfl⟩
              clear HC
              have hni : partS.nearB l i = true := hnr
              have HIH : Hid (∀ (u2 : Su) (W : World), newer w W → SuOk u2 W → u2.frm = u.frm → u2.beds = u.beds ++ [(i : Int)] → Calls Try.prog 69 #[smV s, suV u2] W fun e w' => surfOut W.heap.size u2.a ((surfsR s.sd.n s.cs.length s.sd.K k q (l ++ [i])).map (suN k)) e w' ∧ newer W w') := Lib.hid (fun u2 W hW hu2 hf2 hl2 => HI0.out.2 (l ++ [i]) u2 W (HI0.out.1.next hW) hu2 (by rw [hf2]; exact HPL.out.1) (by rw [hl2, HPL.out.2.1, List.map_append]; rfl) (way_snoc l i (by rw [← HPL.out.2.2.2.2.1]; exact hlt) HPL.out.2.2.1 (near_iff.1 hni)) (by rw [List.length_append, List.length_singleton]; have := HPL.out.2.2.2.1; omega))
              obtain ⟨LL, hLL⟩ : ∃ LL, LL = (surfsR s.sd.n s.cs.length s.sd.K k q (l ++ [i])).map (suN k) := ⟨_, rfl⟩
              rw [← hLL] at HIH
              have HLL := Lib.hid (And.intro hLL hni)
              clear hLL hni
              go_upto_region 11 with fail
              clear u1 x0
              have x0 := HQ.out.2.2.1.at 0 (v := .slice s.a s.cs.length s.c) rfl
              have u1 := HQ.out.2.2.2.at 1 (v := .slice u.a u.beds.length u.c) rfl
              have HST : Hid (∀ ii v W W', pickD [vIs (.slice A us.length c), vIs (smV s), vIs (.pointer (some ⟨w.heap.size + 1, 0, none⟩)), vIs (vi u.frm), vNilB wr.heap.size, vIs (.pointer (some ⟨w.heap.size + 1, 1, none⟩)), vIs (.slice u.a u.beds.length u.c), vCopyB wr.heap.size u.beds, vIs (vi (i : Int)), vOneB wr.heap.size (i : Int), vTwoB wr.heap.size u.beds (i : Int), vSub wr.heap.size u (i : Int), vSurfs wr.heap.size LL] ii v W → newer W W' → pickD [vIs (.slice A us.length c), vIs (smV s), vIs (.pointer (some ⟨w.heap.size + 1, 0, none⟩)), vIs (vi u.frm), vNilB wr.heap.size, vIs (.pointer (some ⟨w.heap.size + 1, 1, none⟩)), vIs (.slice u.a u.beds.length u.c), vCopyB wr.heap.size u.beds, vIs (vi (i : Int)), vOneB wr.heap.size (i : Int), vTwoB wr.heap.size u.beds (i : Int), vSub wr.heap.size u (i : Int), vSurfs wr.heap.size LL] ii v W') := Lib.hid (pickD_stable _ ⟨vIs_st, vIs_st, vIs_st, vIs_st, vNilB_st, vIs_st, vIs_st, vCopyB_st, vIs_st, vOneB_st, vTwoB_st, vSub_st, vSurfs_st, trivial⟩)
              refine wp_words (by kernel_rfl) (region_live 13 (by kernel_rfl) (by kernel_rfl) (fun W => Below wr.heap.size wr W) (relTwo wr.heap.size 10 10) [none, none, none, none, some 7, none, none, some 10, none, some 10, some 11, none, none] (pickD [vIs (.slice A us.length c), vIs (smV s), vIs (.pointer (some ⟨w.heap.size + 1, 0, none⟩)), vIs (vi u.frm), vNilB wr.heap.size, vIs (.pointer (some ⟨w.heap.size + 1, 1, none⟩)), vIs (.slice u.a u.beds.length u.c), vCopyB wr.heap.size u.beds, vIs (vi (i : Int)), vOneB wr.heap.size (i : Int), vTwoB wr.heap.size u.beds (i : Int), vSub wr.heap.size u (i : Int), vSurfs wr.heap.size LL]) ?_ (Below.refl _ wr).drew ?_ ?_)
              · intro listed i j v W W' hi hj hui hlj hpi hcl hk hD hR
                by_cases h5 : i = 10
                · subst h5
                  obtain rfl | rfl | rfl | rfl | rfl | rfl | rfl | rfl | rfl | rfl | rfl | rfl | rfl | hj9 : j = 0 ∨ j = 1 ∨ j = 2 ∨ j = 3 ∨ j = 4 ∨ j = 5 ∨ j = 6 ∨ j = 7 ∨ j = 8 ∨ j = 9 ∨ j = 10 ∨ j = 11 ∨ j = 12 ∨ 13 ≤ j := by omega
                  · exact hD
                  · exact hD
                  · exact hD
                  · exact hD
                  · have h1 := (hk 7 (by kernel_rfl)).2
                    rw [hpi 7 (by kernel_rfl)] at h1
                    cases h1
                  · exact hD
                  · exact hD
                  · exact absurd rfl (hk 10 (by kernel_rfl)).1
                  · exact hD
                  · exact absurd rfl (hk 10 (by kernel_rfl)).1
                  · exact absurd rfl hj
                  · rw [show listed.getD 10 false = true from (hcl 11 10 (by omega) (by kernel_rfl) hlj)] at hui
                    cases hui
                  · rw [show listed.getD 10 false = true from (hcl 11 10 (by omega) (by kernel_rfl) (hcl 12 11 (by omega) (by kernel_rfl) hlj))] at hui
                    cases hui
                  · obtain ⟨m, rfl⟩ : ∃ m, j = m + 13 := ⟨j - 13, by omega⟩
                    exact trivial
                · have hrl : relTwo wr.heap.size 10 10 i = newer := by
                    unfold relTwo
                    rw [show (Nat.beq i 10 || Nat.beq i 10) = false by
                      cases h1 : Nat.beq i 10
                      · rfl
                      · exact absurd (Nat.eq_of_beq_eq_true h1) h5]
                  rw [hrl] at hR
                  exact HST.out j v W W' hD hR
              · refine ⟨?_, ?_, ?_, ?_, ?_, ?_, ?_, ?_, ?_, ?_, ?_, ?_, ?_, trivial⟩
                · intro listed a W hun hG hO hp
                  have h5 := hO.slot 5 (by kernel_rfl)
                  refine wp_yields (v := .slice A us.length c) ?_ ⟨_, rfl, rfl, newer_refl _, hG⟩
                  simp [slotOf] at h5
                  simp [execOp, go_sem, h5]
                · intro listed a W hun hG hO hp
                  have h2 := hO.slot 2 (by kernel_rfl)
                  have c0 := keep_cell x0 hG
                  have c1 := keep_cell x1 hG
                  refine wp_yields (v := smV s) ?_ ⟨_, rfl, rfl, newer_refl _, hG⟩
                  simp [slotOf] at h2
                  simp [execOp, go_sem, h2, c0, c1]
                · intro listed a W hun hG hO hp
                  have h3 := hO.slot 3 (by kernel_rfl)
                  refine wp_yields (v := (.pointer (some ⟨w.heap.size + 1, 0, none⟩))) ?_ ⟨_, rfl, rfl, newer_refl _, hG⟩
                  simp [slotOf] at h3
                  simp [execOp, go_sem, h3]
                · intro listed a W hun hG hO hp
                  have h59 : slotOf a 59 = (.pointer (some ⟨w.heap.size + 1, 0, none⟩)) := hp.1
                  have c0 := keep_cell u0 hG
                  refine wp_yields (v := vi u.frm) ?_ ⟨_, rfl, rfl, newer_refl _, hG⟩
                  simp [slotOf] at h59
                  simp [execOp, go_sem, h59, c0]
                · intro listed a W hun hG hO hp
                  refine wp_makes (v := .slice (some ⟨W.heap.size, 0, none⟩) 0 0) (W' := W.alloc (.cells #[] 3)) ?_ ⟨_, rfl, ⟨_, rfl, hG.size, Whole.made _ _ _⟩, newer_allocH _ _, hG.alloc hG.size _⟩
                  simp [execOp, go_sem]
                · intro listed a W hun hG hO hp
                  have h3 := hO.slot 3 (by kernel_rfl)
                  refine wp_yields (v := (.pointer (some ⟨w.heap.size + 1, 1, none⟩))) ?_ ⟨_, rfl, rfl, newer_refl _, hG⟩
                  simp [slotOf] at h3
                  simp [execOp, go_sem, h3]
                · intro listed a W hun hG hO hp
                  have h62 : slotOf a 62 = (.pointer (some ⟨w.heap.size + 1, 1, none⟩)) := hp.1
                  have c0 := keep_cell u1 hG
                  refine wp_yields (v := .slice u.a u.beds.length u.c) ?_ ⟨_, rfl, rfl, newer_refl _, hG⟩
                  simp [slotOf] at h62
                  simp [execOp, go_sem, h62, c0]
                · intro listed a W hun hG hO hp
                  have h61 : listed.getD 7 false = false → vNilB wr.heap.size (slotOf a 61) W := hp.1
                  have h63 : slotOf a 63 = (.slice u.a u.beds.length u.c) := hp.2.1
                  obtain ⟨nb, h61, hnb, hW⟩ := h61 hun
                  obtain ⟨hi0, hz0, hz1, hz2⟩ := HI.out
                  refine wp_append_owncopy (enc := intL) (size := 1) wr.heap.size (.tmp 61) (.tmp 63) 25 3 i0 (.int .i64 0) 8 Try.underlying25 hi0 hz0 hz1 hz2 rfl (by omega) (by omega) (fun _ => rfl) rfl nb ((eval_slot a 61).trans h61) hnb hW u.beds u.a u.c ((eval_slot a 63).trans h63) HUL.out (HU.out.next (newer_trans HQ.out.2.1 hG)) hG.size ?_
                  intro B c w1 ho hb _
                  exact ⟨_, rfl, ⟨B, c, rfl, ho⟩, hb, below_next hG hb⟩
                · intro listed a W hun hG hO hp
                  have h6 := hO.slot 6 (by kernel_rfl)
                  refine wp_yields (v := vi (i : Int)) ?_ ⟨_, rfl, rfl, newer_refl _, hG⟩
                  simp [slotOf] at h6
                  simp [execOp, go_sem, h6]
                · intro listed a W hun hG hO hp
                  have h65 : slotOf a 65 = (vi (i : Int)) := hp.1
                  refine wp_makes (v := .slice (some ⟨W.heap.size, 0, none⟩) 1 1) (W' := W.alloc (.cells #[vi (i : Int)] 3)) ?_ ⟨_, rfl, ⟨_, rfl, hG.size, Whole.made _ _ _⟩, newer_allocH _ _, hG.alloc hG.size _⟩
                  simp [slotOf] at h65
                  simp [execOp, go_sem, h65]
                · intro listed a W hun hG hO hp
                  have h64 : listed.getD 10 false = false → vCopyB wr.heap.size u.beds (slotOf a 64) W := hp.1
                  have h66 : listed.getD 10 false = false → vOneB wr.heap.size (i : Int) (slotOf a 66) W := hp.2.1
                  obtain ⟨B, c, h64, ho⟩ := h64 hun
                  obtain ⟨nb, h66, hnb, hW⟩ := h66 hun
                  obtain ⟨hi0, hz0, hz1, hz2⟩ := HI.out
                  have hl8 := HUL.out
                  refine wp_append_one (.tmp 64) (.tmp 66) 25 rfl wr.heap.size 3 i0 (.int .i64 0) 8 Try.underlying25 hi0 hz0 hz1 hz2 rfl B u.beds.length c (u.beds.flatMap intL) ((eval_slot a 64).trans h64) ho ⟨nb, 0, none⟩ 1 (vi (i : Int)) ((eval_slot a 66).trans h66) (hW.at 0 rfl) rfl (by unfold maxLen; omega) (by omega) hG.size ?_
                  intro g c' w1 hown hon
                  have hB : Below wr.heap.size W w1 := by
                    rcases hon with ⟨-, -, hg⟩ | ⟨-, hg⟩
                    · exact below_of_grown hg (own_ge_slice hown) hG.size
                    · exact below_of_grown (hg.but (some g)) (own_ge_slice hown) hG.size
                  exact ⟨_, rfl, ⟨g, c', rfl, by rw [flatB_snoc]; exact hown⟩, hB, hG.trans hB⟩
                · intro listed a W hun hG hO hp
                  have h60 : slotOf a 60 = (vi u.frm) := hp.1
                  have h67 : listed.getD 11 false = false → vTwoB wr.heap.size u.beds (i : Int) (slotOf a 67) W := hp.2.1
                  obtain ⟨g, c, h67, ho⟩ := h67 hun
                  have hge := own_ge_slice ho
                  have hok := row_of_own (enc := intL) (size := 1) (by omega) (fun _ => rfl) ho
                  refine wp_yields (v := suV ⟨u.frm, u.beds ++ [(i : Int)], some ⟨g, 0, none⟩, c⟩) ?_ ⟨_, rfl, ⟨⟨u.frm, u.beds ++ [(i : Int)], some ⟨g, 0, none⟩, c⟩, rfl, rfl, rfl, hok, fun ad had => by injection had with had; rw [← had]; exact hge⟩, newer_refl _, hG⟩
                  simp [slotOf] at h60 h67
                  simp [execOp, go_sem, h60, h67]
                · intro listed a W hun hG hO hp
                  have h58 : slotOf a 58 = (smV s) := hp.1
                  have h68 : vSub wr.heap.size u (i : Int) (slotOf a 68) W := hp.2.1
                  obtain ⟨u2, h68, hf2, hl2, hu2, hge2⟩ := h68
                  refine wp_enters (f := 69) (args := #[smV s, suV u2]) ?_ ((HIH.out u2 W (newer_trans HQ.out.2.1 hG) hu2 hf2 hl2).mono ?_)
                  · simp [slotOf] at h58 h68
                    simp [go_sem, h58, h68]
                  · rintro e w' ⟨⟨vs, A2, c2, rfl, hrv, hvi, hve⟩, hb⟩
                    exact ⟨_, rfl, _, rfl, ⟨vs, A2, c2, rfl, hrv, hvi.high hG.size hge2, hve⟩, hb, below_next hG hb⟩
              · intro wz hG
                rintro _ rfl _ rfl _ rfl _ rfl _ - _ rfl _ rfl _ - _ rfl _ - _ - _ - _ ⟨vs, A2, c2, rfl, hrv, hvi, hve⟩
                change wpList _ _ _ _ _ _
                simp only [Act.put, List.setIfInBounds_toArray, List.set_cons_zero, List.set_cons_succ, List.drop_succ_cons, List.drop_zero]
                have HR2 := Lib.hid (And.intro hrv (And.intro hvi hve))
                have HJ2 := Lib.hid (And.intro (HJ.out.next hG) (And.intro (newer_trans HQ.out.2.1 hG) (And.intro (HQ.out.2.2.1.below hG HQ.out.2.2.1.lt) (And.intro (HQ.out.2.2.2.below hG HQ.out.2.2.2.lt) hG))))
                have hfb : us.length + vs.length ≤ 13060694017 := by
                  have h1 := part_few (cols := s.cs.length) (K := s.sd.K) (k := k) (r := q) (n := s.sd.n) HPL.out.2.2.2.2.2.1 HPL.out.2.2.2.2.2.2 (l := l) (i := i) (by have := HPL.out.2.2.2.2.2.1; rw [← HPL.out.2.2.2.2.1] at this; omega)
                  have h2 := surfs_few12 (cols := s.cs.length) (K := s.sd.K) (k := k) (r := q) (n := s.sd.n) HPL.out.2.2.2.2.2.1 HPL.out.2.2.2.2.2.2 (l ++ [i])
                  have h3 : us.length = (partS s.sd.n s.cs.length s.sd.K k q l i).length := by have := congrArg List.length HJ.out.eq; simpa using this
                  have h4 : vs.length = (surfsR s.sd.n s.cs.length s.sd.K k q (l ++ [i])).length := by have := congrArg List.length (HR2.out.2.2.trans HLL.out.1); simpa using this
                  omega
                have HFB := Lib.hid hfb
                have hfar : ∀ x ∈ vs, ∀ ad, x.a = some ad → (Value.slice A us.length c).ownBlock ≠ some ad.block := fun x hx ad had e => by
                  have h1 := own_lt HJ.out.own _ e
                  rcases HR2.out.2.1.hi x hx ad had with h2 | h2
                  · omega
                  · rw [had] at h2
                    cases h2
                have HFR := Lib.hid hfar
                clear hrv hvi hve hG HJ HQ HIH HST hfb hfar x0 x1 u0 u1
                skip
                go_wp2_with (at_builtin; go_loud ((refine wpList_plain rfl fun _ hK => wp_append_all (enc := suL) (size := 2) (w.heap.size + 2) (.tmp 57) (.tmp 69) 49 27 i1 (.agg #[vi 0, .slice none 0 0]) 32 Try.underlying49 HI1.out.1 HI1.out.2.1 HI1.out.2.2.1 HI1.out.2.2.2 rfl (by omega) (fun _ => rfl) suL_one rfl A us.length c (us.flatMap suL) rfl HJ2.out.1.own vs A2 c2 rfl HR2.out.1 (by have := HFB.out; unfold maxLen; omega) (by have := HFB.out; omega) (by have := HN0.out; have := HJ2.out.2.2.2.2.size; omega) fun B c3 w5 hown hgr hat => hK _ _ ?_); have HE := Lib.hid (And.intro (HJ2.out.1.app (a := u.a) ⟨HR2.out.2.1.ok, HR2.out.2.1.ne, fun x hx ad had => .inl (by rcases HR2.out.2.1.hi x hx ad had with h2 | h2; (have := HN0.out; omega); (rw [had] at h2; cases h2))⟩ HFR.out hown hgr hat) (And.intro (HJ2.out.1.new (w := w) (Nat.le_add_right _ _) HJ2.out.2.1 hgr) (And.intro (HJ2.out.2.2.1.grown hgr (fun e => own_ne HJ2.out.1.own HJ2.out.2.2.1 (by decide) e.symm)) (HJ2.out.2.2.2.1.grown hgr (fun e => by have := own_ge HJ2.out.1.own _ e.symm; omega))))); have HSZ := Lib.hid hgr.size; clear hown hgr hat))
                refine ⟨⟨i + 1, us ++ vs, B, c3, by omega, by rw [List.length_append], rfl, ?_, HE.out.2.1, HE.out.2.2.1, HE.out.2.2.2, by have := HN0.out; have := HJ2.out.2.2.2.2.size; have := HSZ.out; omega⟩, ?_⟩
                · have h1 := HE.out.1
                  rw [HR2.out.2.2, HLL.out.1, ← List.map_append] at h1
                  unfold partS
                  rw [if_pos HLL.out.2]
                  exact h1
                · simp [intOf]
                  omega
          · obtain rfl : i = n := by omega
            have HZ := HJ.out.out (H := w.heap.size) (Nat.le_add_right _ _)
            go_wp2_with fail
            go_ret
            rw [HPL.out.2.2.2.2.1, part_all] at HZ
            exact ⟨HZ, HQ.out.2.1⟩
    | true =>
      rw [hsf] at HB
      have HOW : Hid (ownS s.cs.length s.sd.K k l = [l]) := Lib.hid (by have h := own_yes hs hln (k := k) (by rw [← hf, ← hl]; exact hsf); rw [sd_len] at h; exact h)
      clear hok hu hs hnw hxb hub hy0 hyn ea hi0 hz0 hz1 hz2 hi1 hy1 hy2 hy3 hsize cy hf hl hw hr hn hsf
      by_cases hr0 : r = 0
      · subst hr0
        have hge : (s.cs.length : Int) ≤ u.frm + (u.beds.length : Int) := by have h1 := HP0.out.1; have h2 := HP0.out.2.2.2.1; have h3 := congrArg List.length HP0.out.2.1; rw [List.length_map] at h3; omega
        skip
        rw [← HSA.out] at x0
        go_enter Try.func69, Try.ntmps69
        go_wp2_with fail
        refine (HB.out).mono ?_
        rintro e w2 ⟨rfl, hb⟩
        have H2 := Lib.hid (And.intro (newer_trans HKE.out.2.2 hb) (And.intro (HKE.out.1.below hb HKE.out.1.lt) (HKE.out.2.1.below hb HKE.out.2.1.lt)))
        have HS2 : Hid (w.heap.size + 2 ≤ w2.heap.size) := Lib.hid (by have h1 := hb.size; simp only [World.size_alloc] at h1; omega)
        clear x0 x1 u0 u1 hb HB HKE H0
        have x0 := H2.out.2.1.at 0 (v := .slice s.a s.cs.length s.c) rfl
        rw [HSA.out] at x0
        have x1 := H2.out.2.1.at 1 (v := vi s.least) rfl
        have u0 := H2.out.2.2.at 0 (v := vi u.frm) rfl
        have u1 := H2.out.2.2.at 1 (v := .slice u.a u.beds.length u.c) rfl
        have hn1 := newer_allocH w2 (.cells (suC u) 27)
        have HRW := Lib.hid (row_su (Whole.made w2 27 (suC u)))
        have H3 := Lib.hid (And.intro (newer_trans H2.out.1 hn1) (And.intro (H2.out.2.1.below hn1 H2.out.2.1.lt) (H2.out.2.2.below hn1 H2.out.2.2.lt)))
        have HSI : Hid (SfIn (w.heap.size + 2) u.a [u] (w2.alloc (.cells (suC u) 27))) := Lib.hid ⟨fun x hx => by obtain rfl := List.mem_singleton.1 hx; exact HU.out.next H3.out.1, fun x hx => by obtain rfl := List.mem_singleton.1 hx; exact hub2, fun x hx ad had => by obtain rfl := List.mem_singleton.1 hx; exact .inr rfl⟩
        have HNO : Hid (SfJ (w.heap.size + 2) u.a [] [] none 0 (w2.alloc (.cells (suC u) 27))) := Lib.hid (SfJ.none _ _ _)
        have H0 := Lib.hid True.intro
        clear hn1
        go_wp2_with (at_builtin; go_loud ((refine wpList_plain rfl fun _ hK => wp_append_all (enc := suL) (size := 2) (w.heap.size + 2) (.tmp 17) (.tmp 19) 49 27 i1 (.agg #[vi 0, .slice none 0 0]) 32 Try.underlying49 HI1.out.1 HI1.out.2.1 HI1.out.2.2.1 HI1.out.2.2.2 rfl (by omega) (fun _ => rfl) suL_one rfl none 0 0 [] rfl HNO.out.own [u] (some ⟨w2.heap.size, 0, none⟩) 1 rfl HRW.out (by unfold maxLen; simp only [List.length_singleton]; omega) (by simp only [List.length_singleton]; omega) (by have := HS2.out; rw [World.size_alloc]; omega) fun B c3 w5 hown hgr hat => hK _ _ ?_); have HE := Lib.hid (And.intro (HNO.out.app (a := u.a) HSI.out (fun x hx ad had e => by cases e) hown hgr hat) (And.intro (HNO.out.new (w := w) (Nat.le_add_right _ _) H3.out.1 hgr) (And.intro (H3.out.2.1.grown hgr (fun e => by cases e)) (H3.out.2.2.grown hgr (fun e => by cases e))))); have HSZ : Hid (w.heap.size + 2 ≤ w5.heap.size) := Lib.hid (by have h1 := hgr.size; have h2 := HS2.out; rw [World.size_alloc] at h1; omega); clear hown hgr hat x0 x1 u0 u1; have x0 := HE.out.2.2.1.at 0 (v := .slice s.a s.cs.length s.c) rfl; rw [HSA.out] at x0; have x1 := HE.out.2.2.1.at 1 (v := vi s.least) rfl; have u0 := HE.out.2.2.2.at 0 (v := vi u.frm) rfl; have u1 := HE.out.2.2.2.at 1 (v := .slice u.a u.beds.length u.c) rfl))
        have HS0 : Hid (SfJ (w.heap.size + 2) u.a ((ownS s.cs.length s.sd.K k l).map (suN k)) [u] B c3 w5) := Lib.hid (by
          have h1 := HE.out.1
          rw [HOW.out]
          have h2 : ([] ++ [u].map suK : List (Int × List Int)) = [l].map (suN k) := by
            show [(u.frm, u.beds)] = [((k : Int), l.map fun x : Nat => (x : Int))]
            rw [HP0.out.1, HP0.out.2.1]
          rw [h2] at h1
          exact h1)
        go_ret
        exact ⟨HS0.out.out (Nat.le_add_right _ _), HE.out.2.1⟩
      · obtain ⟨q, rfl⟩ : ∃ q, r = q + 1 := ⟨r - 1, by omega⟩
        have hge : ¬ (s.cs.length : Int) ≤ u.frm + (u.beds.length : Int) := by have h1 := HP0.out.1; have h2 := HP0.out.2.2.2.1; have h3 := congrArg List.length HP0.out.2.1; rw [List.length_map] at h3; omega
        skip
        have HI0 := Lib.hid (And.intro HOK.out (HIH0.out q rfl))
        have HPL := Lib.hid (And.intro HP0.out.1 (And.intro HP0.out.2.1 (And.intro HP0.out.2.2.1 (And.intro HP0.out.2.2.2.1 (And.intro HP0.out.2.2.2.2 (And.intro (show s.sd.n ≤ 5 by rw [← HP0.out.2.2.2.2]; exact hnb.2) (show q ≤ 12 by have := HP0.out.2.2.2.1; omega)))))))
        clear HIH0
        rw [← HSA.out] at x0
        go_enter Try.func69, Try.ntmps69
        go_wp2_with fail
        refine (HB.out).mono ?_
        rintro e w2 ⟨rfl, hb⟩
        have H2 := Lib.hid (And.intro (newer_trans HKE.out.2.2 hb) (And.intro (HKE.out.1.below hb HKE.out.1.lt) (HKE.out.2.1.below hb HKE.out.2.1.lt)))
        have HS2 : Hid (w.heap.size + 2 ≤ w2.heap.size) := Lib.hid (by have h1 := hb.size; simp only [World.size_alloc] at h1; omega)
        clear x0 x1 u0 u1 hb HB HKE H0
        have x0 := H2.out.2.1.at 0 (v := .slice s.a s.cs.length s.c) rfl
        rw [HSA.out] at x0
        have x1 := H2.out.2.1.at 1 (v := vi s.least) rfl
        have u0 := H2.out.2.2.at 0 (v := vi u.frm) rfl
        have u1 := H2.out.2.2.at 1 (v := .slice u.a u.beds.length u.c) rfl
        have hn1 := newer_allocH w2 (.cells (suC u) 27)
        have HRW := Lib.hid (row_su (Whole.made w2 27 (suC u)))
        have H3 := Lib.hid (And.intro (newer_trans H2.out.1 hn1) (And.intro (H2.out.2.1.below hn1 H2.out.2.1.lt) (H2.out.2.2.below hn1 H2.out.2.2.lt)))
        have HSI : Hid (SfIn (w.heap.size + 2) u.a [u] (w2.alloc (.cells (suC u) 27))) := Lib.hid ⟨fun x hx => by obtain rfl := List.mem_singleton.1 hx; exact HU.out.next H3.out.1, fun x hx => by obtain rfl := List.mem_singleton.1 hx; exact hub2, fun x hx ad had => by obtain rfl := List.mem_singleton.1 hx; exact .inr rfl⟩
        have HNO : Hid (SfJ (w.heap.size + 2) u.a [] [] none 0 (w2.alloc (.cells (suC u) 27))) := Lib.hid (SfJ.none _ _ _)
        have H0 := Lib.hid True.intro
        clear hn1
        go_wp2_with (at_builtin; go_loud ((refine wpList_plain rfl fun _ hK => wp_append_all (enc := suL) (size := 2) (w.heap.size + 2) (.tmp 17) (.tmp 19) 49 27 i1 (.agg #[vi 0, .slice none 0 0]) 32 Try.underlying49 HI1.out.1 HI1.out.2.1 HI1.out.2.2.1 HI1.out.2.2.2 rfl (by omega) (fun _ => rfl) suL_one rfl none 0 0 [] rfl HNO.out.own [u] (some ⟨w2.heap.size, 0, none⟩) 1 rfl HRW.out (by unfold maxLen; simp only [List.length_singleton]; omega) (by simp only [List.length_singleton]; omega) (by have := HS2.out; rw [World.size_alloc]; omega) fun B c3 w5 hown hgr hat => hK _ _ ?_); have HE := Lib.hid (And.intro (HNO.out.app (a := u.a) HSI.out (fun x hx ad had e => by cases e) hown hgr hat) (And.intro (HNO.out.new (w := w) (Nat.le_add_right _ _) H3.out.1 hgr) (And.intro (H3.out.2.1.grown hgr (fun e => by cases e)) (H3.out.2.2.grown hgr (fun e => by cases e))))); have HSZ : Hid (w.heap.size + 2 ≤ w5.heap.size) := Lib.hid (by have h1 := hgr.size; have h2 := HS2.out; rw [World.size_alloc] at h1; omega); clear hown hgr hat x0 x1 u0 u1; have x0 := HE.out.2.2.1.at 0 (v := .slice s.a s.cs.length s.c) rfl; rw [HSA.out] at x0; have x1 := HE.out.2.2.1.at 1 (v := vi s.least) rfl; have u0 := HE.out.2.2.2.at 0 (v := vi u.frm) rfl; have u1 := HE.out.2.2.2.at 1 (v := .slice u.a u.beds.length u.c) rfl))
        have HS0 : Hid (SfJ (w.heap.size + 2) u.a ((ownS s.cs.length s.sd.K k l).map (suN k)) [u] B c3 w5) := Lib.hid (by
          have h1 := HE.out.1
          rw [HOW.out]
          have h2 : ([] ++ [u].map suK : List (Int × List Int)) = [l].map (suN k) := by
            show [(u.frm, u.beds)] = [((k : Int), l.map fun x : Nat => (x : Int))]
            rw [HP0.out.1, HP0.out.2.1]
          rw [h2] at h1
          exact h1)
        go_loopw [5, 6] (fun s5 s6 wr => ∃ (i : Nat) (us : List Su) (A : Option Addr) (c : Nat), i ≤ n ∧ s5 = .slice A us.length c ∧ s6 = vi i ∧ SfJ (w.heap.size + 2) u.a ((partS s.sd.n s.cs.length s.sd.K k q l i).map (suN k)) us A c wr ∧ newer w wr ∧ Whole wr w.heap.size 24 (smC s) ∧ Whole wr (w.heap.size + 1) 27 (suC u) ∧ w.heap.size + 2 ≤ wr.heap.size) (fun _ s6 _ => n - (intOf s6).toNat)
        case atStart => exact ⟨0, [u], B, c3, Nat.zero_le _, rfl, rfl, HS0.out, HE.out.2.1, HE.out.2.2.1, HE.out.2.2.2, HSZ.out⟩
        case round =>
          obtain ⟨i, us, A, c, hi, rfl, rfl, hj, q2, q3, q4, q5⟩ := hrel
          clear x0 x1 u0 u1 H0 HS0
          have HJ := Lib.hid hj
          have HQ := Lib.hid (And.intro hi (And.intro q2 (And.intro q3 q4)))
          have HN0 := Lib.hid q5
          have cy := keep_cell HCY.out q2
          have x0 := q3.at 0 (v := .slice s.a s.cs.length s.c) rfl
          rw [HSA.out] at x0
          have x1 := q3.at 1 (v := vi s.least) rfl
          have u0 := q4.at 0 (v := vi u.frm) rfl
          have u1 := q4.at 1 (v := .slice u.a u.beds.length u.c) rfl
          clear hj q2 q3 q4 q5
          by_cases hlt : i < n
          · have hlti : (i : Int) < n := by omega
            obtain ⟨km, hkm0⟩ : ∃ km, km = u.beds.length - 1 := ⟨_, rfl⟩
            obtain ⟨ub, uo, eu, d0⟩ := row1k (HU.out.next HQ.out.2.1) (k := km) (by omega)
            have HEU := Lib.hid eu
            rw [eu] at u1
            have hkm : (km : Int) < u.beds.length := by omega
            have c51 : IntKind.i64.wrap ((u.beds.length : Int) - 1) = (km : Int) := by rw [IntWalk.i64_in _ (by have := HUL.out; omega)]; omega
            obtain ⟨p, hp⟩ : ∃ p, p = iAt u.beds km := ⟨_, rfl⟩
            rw [← hp] at d0
            have hpl : iAt (l.map fun x : Nat => (x : Int)) (l.length - 1) = p := by rw [hp, HPL.out.2.1, hkm0, HUL2.out]
            have hpb : 0 ≤ p ∧ p < n := by
              obtain ⟨y, hy, rfl⟩ := last_at hln hpl
              have h1 := way_lt l (l.length - 1) y HPL.out.2.2.1 (by rw [← List.getLast?_eq_getElem?]; exact hy)
              rw [← HPL.out.2.2.2.2.1] at h1
              omega
            have c54 : IntKind.i64.wrap ((i : Int) - p) = (i : Int) - p := IntWalk.i64_in _ (by omega)
            have hnl := near_last (b := i) hln hpl
            have HC := Lib.hid (fun W => in_any ((i : Int) - p) (-1) 1 W)
            clear eu hp hpl hpb hkm0
            cases hq : inB ((i : Int) - p) (-1) 1 with
            | false =>
              rw [hq] at HC hnl
              clear hq
              go_wp2_with fail
              refine (HC.out _).mono ?_
              rintro e w2 ⟨rfl, rfl⟩
              go_wp2_with fail
              refine ⟨⟨i + 1, us, A, c, by omega, rfl, rfl, ?_, HQ.out.2.1, HQ.out.2.2.1, HQ.out.2.2.2, HN0.out⟩, ?_⟩
              · unfold partS
                rw [hnl, if_neg (by decide), List.append_nil]
                exact HJ.out
              · simp [intOf]
                omega
            | true =>
              rw [hq] at HC hnl
              have hnr := hnl
              clear hq hnl
              go_wp2_with fail
              refine (HC.out _).mono ?_
              rintro e w2 ⟨rfl, rfl⟩
              clear HC
              have hni : partS.nearB l i = true := hnr
              have HIH : Hid (∀ (u2 : Su) (W : World), newer w W → SuOk u2 W → u2.frm = u.frm → u2.beds = u.beds ++ [(i : Int)] → Calls Try.prog 69 #[smV s, suV u2] W fun e w' => surfOut W.heap.size u2.a ((surfsR s.sd.n s.cs.length s.sd.K k q (l ++ [i])).map (suN k)) e w' ∧ newer W w') := Lib.hid (fun u2 W hW hu2 hf2 hl2 => HI0.out.2 (l ++ [i]) u2 W (HI0.out.1.next hW) hu2 (by rw [hf2]; exact HPL.out.1) (by rw [hl2, HPL.out.2.1, List.map_append]; rfl) (way_snoc l i (by rw [← HPL.out.2.2.2.2.1]; exact hlt) HPL.out.2.2.1 (near_iff.1 hni)) (by rw [List.length_append, List.length_singleton]; have := HPL.out.2.2.2.1; omega))
              obtain ⟨LL, hLL⟩ : ∃ LL, LL = (surfsR s.sd.n s.cs.length s.sd.K k q (l ++ [i])).map (suN k) := ⟨_, rfl⟩
              rw [← hLL] at HIH
              have HLL := Lib.hid (And.intro hLL hni)
              clear hLL hni
              go_upto_region 11 with fail
              clear u1 x0
              have x0 := HQ.out.2.2.1.at 0 (v := .slice s.a s.cs.length s.c) rfl
              have u1 := HQ.out.2.2.2.at 1 (v := .slice u.a u.beds.length u.c) rfl
              have HST : Hid (∀ ii v W W', pickD [vIs (.slice A us.length c), vIs (smV s), vIs (.pointer (some ⟨w.heap.size + 1, 0, none⟩)), vIs (vi u.frm), vNilB wr.heap.size, vIs (.pointer (some ⟨w.heap.size + 1, 1, none⟩)), vIs (.slice u.a u.beds.length u.c), vCopyB wr.heap.size u.beds, vIs (vi (i : Int)), vOneB wr.heap.size (i : Int), vTwoB wr.heap.size u.beds (i : Int), vSub wr.heap.size u (i : Int), vSurfs wr.heap.size LL] ii v W → newer W W' → pickD [vIs (.slice A us.length c), vIs (smV s), vIs (.pointer (some ⟨w.heap.size + 1, 0, none⟩)), vIs (vi u.frm), vNilB wr.heap.size, vIs (.pointer (some ⟨w.heap.size + 1, 1, none⟩)), vIs (.slice u.a u.beds.length u.c), vCopyB wr.heap.size u.beds, vIs (vi (i : Int)), vOneB wr.heap.size (i : Int), vTwoB wr.heap.size u.beds (i : Int), vSub wr.heap.size u (i : Int), vSurfs wr.heap.size LL] ii v W') := Lib.hid (pickD_stable _ ⟨vIs_st, vIs_st, vIs_st, vIs_st, vNilB_st, vIs_st, vIs_st, vCopyB_st, vIs_st, vOneB_st, vTwoB_st, vSub_st, vSurfs_st, trivial⟩)
              refine wp_words (by kernel_rfl) (region_live 13 (by kernel_rfl) (by kernel_rfl) (fun W => Below wr.heap.size wr W) (relTwo wr.heap.size 10 10) [none, none, none, none, some 7, none, none, some 10, none, some 10, some 11, none, none] (pickD [vIs (.slice A us.length c), vIs (smV s), vIs (.pointer (some ⟨w.heap.size + 1, 0, none⟩)), vIs (vi u.frm), vNilB wr.heap.size, vIs (.pointer (some ⟨w.heap.size + 1, 1, none⟩)), vIs (.slice u.a u.beds.length u.c), vCopyB wr.heap.size u.beds, vIs (vi (i : Int)), vOneB wr.heap.size (i : Int), vTwoB wr.heap.size u.beds (i : Int), vSub wr.heap.size u (i : Int), vSurfs wr.heap.size LL]) ?_ (Below.refl _ wr).drew ?_ ?_)
              · intro listed i j v W W' hi hj hui hlj hpi hcl hk hD hR
                by_cases h5 : i = 10
                · subst h5
                  obtain rfl | rfl | rfl | rfl | rfl | rfl | rfl | rfl | rfl | rfl | rfl | rfl | rfl | hj9 : j = 0 ∨ j = 1 ∨ j = 2 ∨ j = 3 ∨ j = 4 ∨ j = 5 ∨ j = 6 ∨ j = 7 ∨ j = 8 ∨ j = 9 ∨ j = 10 ∨ j = 11 ∨ j = 12 ∨ 13 ≤ j := by omega
                  · exact hD
                  · exact hD
                  · exact hD
                  · exact hD
                  · have h1 := (hk 7 (by kernel_rfl)).2
                    rw [hpi 7 (by kernel_rfl)] at h1
                    cases h1
                  · exact hD
                  · exact hD
                  · exact absurd rfl (hk 10 (by kernel_rfl)).1
                  · exact hD
                  · exact absurd rfl (hk 10 (by kernel_rfl)).1
                  · exact absurd rfl hj
                  · rw [show listed.getD 10 false = true from (hcl 11 10 (by omega) (by kernel_rfl) hlj)] at hui
                    cases hui
                  · rw [show listed.getD 10 false = true from (hcl 11 10 (by omega) (by kernel_rfl) (hcl 12 11 (by omega) (by kernel_rfl) hlj))] at hui
                    cases hui
                  · obtain ⟨m, rfl⟩ : ∃ m, j = m + 13 := ⟨j - 13, by omega⟩
                    exact trivial
                · have hrl : relTwo wr.heap.size 10 10 i = newer := by
                    unfold relTwo
                    rw [show (Nat.beq i 10 || Nat.beq i 10) = false by
                      cases h1 : Nat.beq i 10
                      · rfl
                      · exact absurd (Nat.eq_of_beq_eq_true h1) h5]
                  rw [hrl] at hR
                  exact HST.out j v W W' hD hR
              · refine ⟨?_, ?_, ?_, ?_, ?_, ?_, ?_, ?_, ?_, ?_, ?_, ?_, ?_, trivial⟩
                · intro listed a W hun hG hO hp
                  have h5 := hO.slot 5 (by kernel_rfl)
                  refine wp_yields (v := .slice A us.length c) ?_ ⟨_, rfl, rfl, newer_refl _, hG⟩
                  simp [slotOf] at h5
                  simp [execOp, go_sem, h5]
                · intro listed a W hun hG hO hp
                  have h2 := hO.slot 2 (by kernel_rfl)
                  have c0 := keep_cell x0 hG
                  have c1 := keep_cell x1 hG
                  refine wp_yields (v := smV s) ?_ ⟨_, rfl, rfl, newer_refl _, hG⟩
                  simp [slotOf] at h2
                  simp [execOp, go_sem, h2, c0, c1]
                · intro listed a W hun hG hO hp
                  have h3 := hO.slot 3 (by kernel_rfl)
                  refine wp_yields (v := (.pointer (some ⟨w.heap.size + 1, 0, none⟩))) ?_ ⟨_, rfl, rfl, newer_refl _, hG⟩
                  simp [slotOf] at h3
                  simp [execOp, go_sem, h3]
                · intro listed a W hun hG hO hp
                  have h59 : slotOf a 59 = (.pointer (some ⟨w.heap.size + 1, 0, none⟩)) := hp.1
                  have c0 := keep_cell u0 hG
                  refine wp_yields (v := vi u.frm) ?_ ⟨_, rfl, rfl, newer_refl _, hG⟩
                  simp [slotOf] at h59
                  simp [execOp, go_sem, h59, c0]
                · intro listed a W hun hG hO hp
                  refine wp_makes (v := .slice (some ⟨W.heap.size, 0, none⟩) 0 0) (W' := W.alloc (.cells #[] 3)) ?_ ⟨_, rfl, ⟨_, rfl, hG.size, Whole.made _ _ _⟩, newer_allocH _ _, hG.alloc hG.size _⟩
                  simp [execOp, go_sem]
                · intro listed a W hun hG hO hp
                  have h3 := hO.slot 3 (by kernel_rfl)
                  refine wp_yields (v := (.pointer (some ⟨w.heap.size + 1, 1, none⟩))) ?_ ⟨_, rfl, rfl, newer_refl _, hG⟩
                  simp [slotOf] at h3
                  simp [execOp, go_sem, h3]
                · intro listed a W hun hG hO hp
                  have h62 : slotOf a 62 = (.pointer (some ⟨w.heap.size + 1, 1, none⟩)) := hp.1
                  have c0 := keep_cell u1 hG
                  refine wp_yields (v := .slice u.a u.beds.length u.c) ?_ ⟨_, rfl, rfl, newer_refl _, hG⟩
                  simp [slotOf] at h62
                  simp [execOp, go_sem, h62, c0]
                · intro listed a W hun hG hO hp
                  have h61 : listed.getD 7 false = false → vNilB wr.heap.size (slotOf a 61) W := hp.1
                  have h63 : slotOf a 63 = (.slice u.a u.beds.length u.c) := hp.2.1
                  obtain ⟨nb, h61, hnb, hW⟩ := h61 hun
                  obtain ⟨hi0, hz0, hz1, hz2⟩ := HI.out
                  refine wp_append_owncopy (enc := intL) (size := 1) wr.heap.size (.tmp 61) (.tmp 63) 25 3 i0 (.int .i64 0) 8 Try.underlying25 hi0 hz0 hz1 hz2 rfl (by omega) (by omega) (fun _ => rfl) rfl nb ((eval_slot a 61).trans h61) hnb hW u.beds u.a u.c ((eval_slot a 63).trans h63) HUL.out (HU.out.next (newer_trans HQ.out.2.1 hG)) hG.size ?_
                  intro B c w1 ho hb _
                  exact ⟨_, rfl, ⟨B, c, rfl, ho⟩, hb, below_next hG hb⟩
                · intro listed a W hun hG hO hp
                  have h6 := hO.slot 6 (by kernel_rfl)
                  refine wp_yields (v := vi (i : Int)) ?_ ⟨_, rfl, rfl, newer_refl _, hG⟩
                  simp [slotOf] at h6
                  simp [execOp, go_sem, h6]
                · intro listed a W hun hG hO hp
                  have h65 : slotOf a 65 = (vi (i : Int)) := hp.1
                  refine wp_makes (v := .slice (some ⟨W.heap.size, 0, none⟩) 1 1) (W' := W.alloc (.cells #[vi (i : Int)] 3)) ?_ ⟨_, rfl, ⟨_, rfl, hG.size, Whole.made _ _ _⟩, newer_allocH _ _, hG.alloc hG.size _⟩
                  simp [slotOf] at h65
                  simp [execOp, go_sem, h65]
                · intro listed a W hun hG hO hp
                  have h64 : listed.getD 10 false = false → vCopyB wr.heap.size u.beds (slotOf a 64) W := hp.1
                  have h66 : listed.getD 10 false = false → vOneB wr.heap.size (i : Int) (slotOf a 66) W := hp.2.1
                  obtain ⟨B, c, h64, ho⟩ := h64 hun
                  obtain ⟨nb, h66, hnb, hW⟩ := h66 hun
                  obtain ⟨hi0, hz0, hz1, hz2⟩ := HI.out
                  have hl8 := HUL.out
                  refine wp_append_one (.tmp 64) (.tmp 66) 25 rfl wr.heap.size 3 i0 (.int .i64 0) 8 Try.underlying25 hi0 hz0 hz1 hz2 rfl B u.beds.length c (u.beds.flatMap intL) ((eval_slot a 64).trans h64) ho ⟨nb, 0, none⟩ 1 (vi (i : Int)) ((eval_slot a 66).trans h66) (hW.at 0 rfl) rfl (by unfold maxLen; omega) (by omega) hG.size ?_
                  intro g c' w1 hown hon
                  have hB : Below wr.heap.size W w1 := by
                    rcases hon with ⟨-, -, hg⟩ | ⟨-, hg⟩
                    · exact below_of_grown hg (own_ge_slice hown) hG.size
                    · exact below_of_grown (hg.but (some g)) (own_ge_slice hown) hG.size
                  exact ⟨_, rfl, ⟨g, c', rfl, by rw [flatB_snoc]; exact hown⟩, hB, hG.trans hB⟩
                · intro listed a W hun hG hO hp
                  have h60 : slotOf a 60 = (vi u.frm) := hp.1
                  have h67 : listed.getD 11 false = false → vTwoB wr.heap.size u.beds (i : Int) (slotOf a 67) W := hp.2.1
                  obtain ⟨g, c, h67, ho⟩ := h67 hun
                  have hge := own_ge_slice ho
                  have hok := row_of_own (enc := intL) (size := 1) (by omega) (fun _ => rfl) ho
                  refine wp_yields (v := suV ⟨u.frm, u.beds ++ [(i : Int)], some ⟨g, 0, none⟩, c⟩) ?_ ⟨_, rfl, ⟨⟨u.frm, u.beds ++ [(i : Int)], some ⟨g, 0, none⟩, c⟩, rfl, rfl, rfl, hok, fun ad had => by injection had with had; rw [← had]; exact hge⟩, newer_refl _, hG⟩
                  simp [slotOf] at h60 h67
                  simp [execOp, go_sem, h60, h67]
                · intro listed a W hun hG hO hp
                  have h58 : slotOf a 58 = (smV s) := hp.1
                  have h68 : vSub wr.heap.size u (i : Int) (slotOf a 68) W := hp.2.1
                  obtain ⟨u2, h68, hf2, hl2, hu2, hge2⟩ := h68
                  refine wp_enters (f := 69) (args := #[smV s, suV u2]) ?_ ((HIH.out u2 W (newer_trans HQ.out.2.1 hG) hu2 hf2 hl2).mono ?_)
                  · simp [slotOf] at h58 h68
                    simp [go_sem, h58, h68]
                  · rintro e w' ⟨⟨vs, A2, c2, rfl, hrv, hvi, hve⟩, hb⟩
                    exact ⟨_, rfl, _, rfl, ⟨vs, A2, c2, rfl, hrv, hvi.high hG.size hge2, hve⟩, hb, below_next hG hb⟩
              · intro wz hG
                rintro _ rfl _ rfl _ rfl _ rfl _ - _ rfl _ rfl _ - _ rfl _ - _ - _ - _ ⟨vs, A2, c2, rfl, hrv, hvi, hve⟩
                change wpList _ _ _ _ _ _
                simp only [Act.put, List.setIfInBounds_toArray, List.set_cons_zero, List.set_cons_succ, List.drop_succ_cons, List.drop_zero]
                have HR2 := Lib.hid (And.intro hrv (And.intro hvi hve))
                have HJ2 := Lib.hid (And.intro (HJ.out.next hG) (And.intro (newer_trans HQ.out.2.1 hG) (And.intro (HQ.out.2.2.1.below hG HQ.out.2.2.1.lt) (And.intro (HQ.out.2.2.2.below hG HQ.out.2.2.2.lt) hG))))
                have hfb : us.length + vs.length ≤ 13060694017 := by
                  have h1 := part_few (cols := s.cs.length) (K := s.sd.K) (k := k) (r := q) (n := s.sd.n) HPL.out.2.2.2.2.2.1 HPL.out.2.2.2.2.2.2 (l := l) (i := i) (by have := HPL.out.2.2.2.2.2.1; rw [← HPL.out.2.2.2.2.1] at this; omega)
                  have h2 := surfs_few12 (cols := s.cs.length) (K := s.sd.K) (k := k) (r := q) (n := s.sd.n) HPL.out.2.2.2.2.2.1 HPL.out.2.2.2.2.2.2 (l ++ [i])
                  have h3 : us.length = (partS s.sd.n s.cs.length s.sd.K k q l i).length := by have := congrArg List.length HJ.out.eq; simpa using this
                  have h4 : vs.length = (surfsR s.sd.n s.cs.length s.sd.K k q (l ++ [i])).length := by have := congrArg List.length (HR2.out.2.2.trans HLL.out.1); simpa using this
                  omega
                have HFB := Lib.hid hfb
                have hfar : ∀ x ∈ vs, ∀ ad, x.a = some ad → (Value.slice A us.length c).ownBlock ≠ some ad.block := fun x hx ad had e => by
                  have h1 := own_lt HJ.out.own _ e
                  rcases HR2.out.2.1.hi x hx ad had with h2 | h2
                  · omega
                  · rw [had] at h2
                    cases h2
                have HFR := Lib.hid hfar
                clear hrv hvi hve hG HJ HQ HIH HST hfb hfar x0 x1 u0 u1
                skip
                go_wp2_with (at_builtin; go_loud ((refine wpList_plain rfl fun _ hK => wp_append_all (enc := suL) (size := 2) (w.heap.size + 2) (.tmp 57) (.tmp 69) 49 27 i1 (.agg #[vi 0, .slice none 0 0]) 32 Try.underlying49 HI1.out.1 HI1.out.2.1 HI1.out.2.2.1 HI1.out.2.2.2 rfl (by omega) (fun _ => rfl) suL_one rfl A us.length c (us.flatMap suL) rfl HJ2.out.1.own vs A2 c2 rfl HR2.out.1 (by have := HFB.out; unfold maxLen; omega) (by have := HFB.out; omega) (by have := HN0.out; have := HJ2.out.2.2.2.2.size; omega) fun B c3 w5 hown hgr hat => hK _ _ ?_); have HE := Lib.hid (And.intro (HJ2.out.1.app (a := u.a) ⟨HR2.out.2.1.ok, HR2.out.2.1.ne, fun x hx ad had => .inl (by rcases HR2.out.2.1.hi x hx ad had with h2 | h2; (have := HN0.out; omega); (rw [had] at h2; cases h2))⟩ HFR.out hown hgr hat) (And.intro (HJ2.out.1.new (w := w) (Nat.le_add_right _ _) HJ2.out.2.1 hgr) (And.intro (HJ2.out.2.2.1.grown hgr (fun e => own_ne HJ2.out.1.own HJ2.out.2.2.1 (by decide) e.symm)) (HJ2.out.2.2.2.1.grown hgr (fun e => by have := own_ge HJ2.out.1.own _ e.symm; omega))))); have HSZ := Lib.hid hgr.size; clear hown hgr hat))
                refine ⟨⟨i + 1, us ++ vs, B, c3, by omega, by rw [List.length_append], rfl, ?_, HE.out.2.1, HE.out.2.2.1, HE.out.2.2.2, by have := HN0.out; have := HJ2.out.2.2.2.2.size; have := HSZ.out; omega⟩, ?_⟩
                · have h1 := HE.out.1
                  rw [HR2.out.2.2, HLL.out.1, ← List.map_append] at h1
                  unfold partS
                  rw [if_pos HLL.out.2]
                  exact h1
                · simp [intOf]
                  omega
          · obtain rfl : i = n := by omega
            have HZ := HJ.out.out (H := w.heap.size) (Nat.le_add_right _ _)
            go_wp2_with fail
            go_ret
            rw [HPL.out.2.2.2.2.1, part_all] at HZ
            exact ⟨HZ, HQ.out.2.1⟩
theorem surfs_any (s : Sm) (hs : SdOk s.sd) (k : Nat) : ∀ r, SurfsAt s k r
  | 0 => surfs_step s hs k 0 (fun q h => by omega)
  | r + 1 => surfs_step s hs k (r + 1) (fun q h => by
    obtain rfl : r = q := by omega
    exact surfs_any s hs k r)

end Go.Proofs.Ytkenokpobbichaa
