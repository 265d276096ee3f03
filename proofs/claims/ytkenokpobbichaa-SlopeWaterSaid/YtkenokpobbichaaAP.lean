/- The least factor of surfaces, by the reference. -/
import Derived.Test.YtkenokpobbichaaAO
import Derived.Test.YtkenokpobbichaaAH
namespace Go.Proofs.Ytkenokpobbichaa
open Go.RowKit Go.Shelf Go.Deep

theorem hK_cons (x : Bd) (bs : List Bd) (tr : Nat → Rl) : ∀ m, hK (x :: bs) tr (m + 1) = holdsN x (tr 0) + hK bs (fun i => tr (i + 1)) m
  | 0 => by simp [hK, List.getD]
  | m + 1 => by
    rw [hK, hK_cons x bs tr m]
    simp [hK, List.getD]
    omega
theorem dK_cons (x : Bd) (bs : List Bd) : ∀ m, dK (x :: bs) (m + 1) = x.drive + dK bs m
  | 0 => by simp [dK, List.getD]
  | m + 1 => by
    rw [dK, dK_cons x bs m]
    simp [dK, List.getD]
    omega
theorem hK_sum (s : Sd) (hi : Bool) : ∀ (l : List Nat) (k : Nat), hK (bedsL s.cols k l) (fun i => endR hi ((bedsL s.cols k l).getD i zeroBd)) l.length = sumH (hAt hi s) k l
  | [], _ => rfl
  | b :: t, k => by
    show hK (bdAt s.cols k b :: bedsL s.cols (k + 1) t) (fun i => endR hi ((bdAt s.cols k b :: bedsL s.cols (k + 1) t).getD i zeroBd)) (t.length + 1) = hAt hi s k b + sumH (hAt hi s) (k + 1) t
    rw [hK_cons]
    have ih := hK_sum s hi t (k + 1)
    have e : holdsN (bdAt s.cols k b) (endR hi (bdAt s.cols k b)) = hAt hi s k b := by
      unfold bdAt hAt
      cases bedAt s.cols k b with
      | none => cases hi <;> decide
      | some x => rfl
    simp only [List.getD_cons_zero, List.getD_cons_succ]
    rw [ih, e]
theorem dK_sum (s : Sd) : ∀ (l : List Nat) (k : Nat), dK (bedsL s.cols k l) l.length = sumH (dAt s) k l
  | [], _ => rfl
  | b :: t, k => by
    show dK (bdAt s.cols k b :: bedsL s.cols (k + 1) t) (t.length + 1) = dAt s k b + sumH (dAt s) (k + 1) t
    rw [dK_cons, dK_sum s t (k + 1)]
    have e : (bdAt s.cols k b).drive = dAt s k b := by
      unfold bdAt dAt
      cases bedAt s.cols k b with
      | none => rfl
      | some x => rfl
    rw [e]
theorem refE_sum (s : Sd) (hi : Bool) (k : Nat) (l : List Nat) : refE (bedsL s.cols k l) hi = refF (sumH (hAt hi s) k l) (sumH (dAt s) k l) := by
  unfold refE refF facE
  rw [bedsL_len, hK_sum, dK_sum]
/-- The least end of a span of a surface. -/
def refLo (s : Sd) (u : Nat × List Nat) : Int := refE (bedsL s.cols u.1 u.2) false
theorem lowest_lo (s : Sd) (l : List (Nat × List Nat)) (b : Int) : lowestK (refLo s) l b = lowestK (fun u => refF (sumH (hT (some false) s) u.1 u.2) (sumH (dAt s) u.1 u.2)) l b := by
  have e : refLo s = fun u => refF (sumH (hT (some false) s) u.1 u.2) (sumH (dAt s) u.1 u.2) := funext fun u => refE_sum s false u.1 u.2
  rw [e]
theorem lowest_step {f : Nat × List Nat → Int} {all : List (Nat × List Nat)} {i : Nat} {u : Nat × List Nat} (h : all[i]? = some u) (b : Int) : lowestK f (all.drop i) b = lowestK f (all.drop (i + 1)) (if 0 ≤ f u ∧ (b < 0 ∨ f u < b) then f u else b) := by
  have hi := (List.getElem?_eq_some_iff.1 h).1
  rw [List.drop_eq_getElem_cons hi, show all[i] = u from (List.getElem?_eq_some_iff.1 h).2]
  rfl
theorem row_su2 {w : World} {B : Nat} {A : Option Addr} {l : List Su} (h : Row suL 2 w B A l) {k : Nat} {x : Su} (hk : l[k]? = some x) : ∃ b off, A = some ⟨b, off, none⟩ ∧ b < B ∧ w.cell? ⟨b, off + k * 2, none⟩ = some (vi x.frm) ∧ w.cell? ⟨b, off + k * 2 + 1, none⟩ = some (.slice x.a x.beds.length x.c) := by
  obtain ⟨b, off, e, hb, hc⟩ := h (ne_nil_of_get hk)
  exact ⟨b, off, e, hb, hc k x hk 0 _ rfl, hc k x hk 1 _ rfl⟩
set_option maxRecDepth 100000 in
set_option maxHeartbeats 1000000 in
theorem lowest_any (s : Sm) (us : List Su) (A : Option Addr) (c : Nat) (all : List (Nat × List Nat)) (w : World) (hok : SmOk s w) (hs : SdOk s.sd) (hr : Row suL 2 w w.heap.size A us) (hsi : ∀ x ∈ us, SuOk x w) (he : us.map suK = all.map suP) (hsb : ∀ u ∈ all, SurfB s.sd.n s.cs.length s.sd.K u.1 u.2) (hlen : us.length ≤ 28298170368) :
    Calls Try.prog 27 #[smV s, .slice A us.length c] w fun e w' => e = .returned (vi (lowestK (refLo s.sd) all (-1))) ∧ newer w w' := by
  have hal : all.length = us.length := by have := congrArg List.length he; simpa using this.symm
  have hnw : newer w (w.alloc (.cells (smC s) 24)) := newer_allocH _ _
  have hxb := Whole.made w 24 (smC s)
  have H0 := Lib.hid (And.intro hnw hxb)
  have x0 := hxb.at 0 (v := .slice s.a s.cs.length s.c) rfl
  have x1 := hxb.at 1 (v := vi s.least) rfl
  have HOK := Lib.hid (And.intro hok (And.intro hr hsi))
  have HP := Lib.hid (And.intro hs (And.intro he hsb))
  have HAL := Lib.hid hal
  obtain ⟨Z, hZ⟩ : ∃ Z, Z = lowestK (refLo s.sd) all (-1) := ⟨_, rfl⟩
  rw [← hZ]
  have HZZ := Lib.hid hZ
  clear hok hr hsi hs he hsb hal hnw hxb hZ
  go_enter Try.func27, Try.ntmps27
  go_wp2_with fail
  go_loopw [5, 6] (fun s5 s6 wr => ∃ (i : Nat) (b : Int), i ≤ us.length ∧ s5 = vi b ∧ s6 = vi i ∧ Z = lowestK (refLo s.sd) (all.drop i) b ∧ newer w wr ∧ Whole wr w.heap.size 24 (smC s)) (fun _ s6 _ => us.length - (intOf s6).toNat)
  case atStart => exact ⟨0, -1, Nat.zero_le _, rfl, rfl, HZZ.out, H0.out.1, H0.out.2⟩
  case round =>
    obtain ⟨i, b, hi, rfl, rfl, q1, q2, q3⟩ := hrel
    clear x0 x1 H0
    by_cases hlt : i < us.length
    · have hki : (i : Int) < us.length := by omega
      obtain ⟨x, hx⟩ := get_of_lt hlt
      obtain ⟨u, hu⟩ := get_of_lt (l := all) (k := i) (by rw [HAL.out]; exact hlt)
      have hxu : suK x = suP u := by
        have h1 := congrArg (fun l => l[i]?) HP.out.2.1
        simpa [hx, hu] using h1
      obtain ⟨hf, hl⟩ : x.frm = (u.1 : Int) ∧ x.beds = u.2.map fun y : Nat => (y : Int) := by simpa [suK, suP, suN] using hxu
      obtain ⟨ab, ao, eA, _, d0, d1⟩ := row_su2 ((HOK.out.2.1.below q2).more q2.size) hx
      obtain ⟨g0, hg0⟩ : ∃ g, g = refLo s.sd u := ⟨_, rfl⟩
      obtain ⟨g1, hg1⟩ : ∃ g, g = refE (bedsL s.sd.cols u.1 u.2) true := ⟨_, rfl⟩
      have HRS : Hid (∀ W, newer w W → Calls Try.prog 22 #[smV s, suV x] W fun e w' => e = .returned (.agg #[vi g0, vi g1]) ∧ newer W w') := Lib.hid (fun W hW => by
        rw [hg0, hg1]
        exact refSpan_any s x u.1 u.2 W (HOK.out.1.next hW) HP.out.1 ((HOK.out.2.2 x (List.mem_of_getElem? hx)).next hW) hf hl (HP.out.2.2 u (List.mem_of_getElem? hu)))
      have HST := Lib.hid (q1.trans (lowest_step (f := refLo s.sd) hu b))
      rw [← hg0] at HST
      have HQ := Lib.hid (And.intro q1 (And.intro q2 q3))
      have x0 := q3.at 0 (v := .slice s.a s.cs.length s.c) rfl
      have x1 := q3.at 1 (v := vi s.least) rfl
      have HEA := Lib.hid eA
      subst eA
      clear q1 q2 q3 hx hu hxu hf hl hg0 hg1 HEA
      go_upto_region 5 with fail
      refine wp_words (by kernel_rfl) (region_told 7 (by kernel_rfl) (by kernel_rfl) (fun W => Below wr.heap.size wr W) newer (pickD [vIs (smV s), vIs (.slice (some ⟨ab, ao, none⟩) us.length c), vIs (vi i), vIs (.pointer (some ⟨ab, ao + i * 2, none⟩)), vIs (suV x), vIs (.agg #[vi g0, vi g1]), vIs (vi g0)]) (fun h k => newer_trans h k) (pickD_stable _ ⟨vIs_st, vIs_st, vIs_st, vIs_st, vIs_st, vIs_st, vIs_st, trivial⟩) (Below.refl _ wr).drew (Below.refl _ _) ?_ ?_)
      · refine ⟨?_, ?_, ?_, ?_, ?_, ?_, ?_, trivial⟩
        · intro a W hG hR hO hp
          have h2 := hO.slot 2 (by kernel_rfl)
          have c0 := keep_cell x0 hG
          have c1 := keep_cell x1 hG
          refine wp_yields (v := smV s) ?_ ⟨_, rfl, rfl, Below.refl _ _, hG⟩
          simp [slotOf] at h2
          simp [execOp, go_sem, h2, c0, c1]
        · intro a W hG hR hO hp
          have h1 := hO.slot 1 (by kernel_rfl)
          refine wp_yields (v := .slice (some ⟨ab, ao, none⟩) us.length c) ?_ ⟨_, rfl, rfl, Below.refl _ _, hG⟩
          simp [slotOf] at h1
          simp [execOp, go_sem, h1]
        · intro a W hG hR hO hp
          have h6 := hO.slot 6 (by kernel_rfl)
          refine wp_yields (v := vi i) ?_ ⟨_, rfl, rfl, Below.refl _ _, hG⟩
          simp [slotOf] at h6
          simp [execOp, go_sem, h6]
        · intro a W hG hR hO hp
          have h15 : slotOf a 15 = .slice (some ⟨ab, ao, none⟩) us.length c := hp.1
          have h16 : slotOf a 16 = vi i := hp.2.1
          refine wp_yields (v := .pointer (some ⟨ab, ao + i * 2, none⟩)) ?_ ⟨_, rfl, rfl, Below.refl _ _, hG⟩
          simp [slotOf] at h15 h16
          simp [execOp, go_sem, h15, h16, hki]
        · intro a W hG hR hO hp
          have h17 : slotOf a 17 = .pointer (some ⟨ab, ao + i * 2, none⟩) := hp.1
          have c0 := keep_cell d0 hG
          have c1 := keep_cell d1 hG
          refine wp_yields (v := suV x) ?_ ⟨_, rfl, rfl, Below.refl _ _, hG⟩
          simp [slotOf] at h17
          simp [execOp, go_sem, h17, c0, c1]
        · intro a W hG hR hO hp
          have h14 : slotOf a 14 = smV s := hp.1
          have h18 : slotOf a 18 = suV x := hp.2.1
          refine wp_enters (f := 22) (args := #[smV s, suV x]) ?_ ((HRS.out W (newer_trans HQ.out.2.1 hG)).mono ?_)
          · simp [slotOf] at h14 h18
            simp [go_sem, h14, h18]
          · rintro e w' ⟨rfl, hb⟩
            exact ⟨_, rfl, _, rfl, rfl, hb, below_next hG hb⟩
        · intro a W hG hR hO hp
          have h19 : slotOf a 19 = .agg #[vi g0, vi g1] := hp.1
          refine wp_yields (v := vi g0) ?_ ⟨_, rfl, rfl, Below.refl _ _, hG⟩
          simp [slotOf] at h19
          simp [execOp, go_sem, h19]
      · intro wz hG hR
        rintro _ rfl _ rfl _ rfl _ rfl _ rfl _ rfl _ rfl
        change wpList _ _ _ _ _ _
        simp only [Act.put, List.setIfInBounds_toArray, List.set_cons_zero, List.set_cons_succ, List.drop_succ_cons, List.drop_zero]
        have HZ := Lib.hid (And.intro (newer_trans HQ.out.2.1 hG) (HQ.out.2.2.below hG HQ.out.2.2.lt))
        clear hG hR x0 x1 d0 d1 HQ HRS
        by_cases h1 : 0 ≤ g0
        · by_cases h2 : b < 0
          · have h3 : 0 ≤ g0 ∧ (b < 0 ∨ g0 < b) := ⟨h1, .inl h2⟩
            have HC := Lib.hid h3
            clear h3
            go_wp2_with fail
            refine ⟨⟨i + 1, g0, by omega, rfl, rfl, ?_, HZ.out.1, HZ.out.2⟩, ?_⟩
            · have h1 := HST.out
              rw [if_pos HC.out] at h1
              exact h1
            · simp [intOf]
              omega
          · by_cases h3 : g0 < b
            · have HC := Lib.hid (show 0 ≤ g0 ∧ (b < 0 ∨ g0 < b) from ⟨h1, .inr h3⟩)
              go_wp2_with fail
              refine ⟨⟨i + 1, g0, by omega, rfl, rfl, ?_, HZ.out.1, HZ.out.2⟩, ?_⟩
              · have h1 := HST.out
                rw [if_pos HC.out] at h1
                exact h1
              · simp [intOf]
                omega
            · have HC := Lib.hid (show ¬ (0 ≤ g0 ∧ (b < 0 ∨ g0 < b)) from fun h => by omega)
              go_wp2_with fail
              refine ⟨⟨i + 1, b, by omega, rfl, rfl, ?_, HZ.out.1, HZ.out.2⟩, ?_⟩
              · have h1 := HST.out
                rw [if_neg HC.out] at h1
                exact h1
              · simp [intOf]
                omega
        · have HC := Lib.hid (show ¬ (0 ≤ g0 ∧ (b < 0 ∨ g0 < b)) from fun h => h1 h.1)
          go_wp2_with fail
          refine ⟨⟨i + 1, b, by omega, rfl, rfl, ?_, HZ.out.1, HZ.out.2⟩, ?_⟩
          · have h1 := HST.out
            rw [if_neg HC.out] at h1
            exact h1
          · simp [intOf]
            omega
    · obtain rfl : i = us.length := by omega
      have HE := Lib.hid (And.intro q1 q2)
      clear q1 q2 q3
      go_wp2_with fail
      go_ret
      refine ⟨?_, HE.out.2⟩
      rw [HE.out.1, ← HAL.out, List.drop_length]
      rfl

end Go.Proofs.Ytkenokpobbichaa
