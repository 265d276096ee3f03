/- A slope that is looked at: its truths, what a bed costs, how many beds; the least of two numbers. -/
import Derived.Test.YtkenokpobbichaaC
namespace Go.Proofs.Ytkenokpobbichaa
open Go.RowKit Go.Deep

/-- The truths in which a slope is looked at: of least, or of most; none: of nothing. -/
def trF (t : Option Bool) : Nat := match t with
  | some false => 61
  | some true => 63
  | none => 67
def trR (t : Option Bool) (b : Bd) : Rl := match t with
  | some hi => endR hi b
  | none => ⟨0, 0, 0⟩
def hT (t : Option Bool) (s : Sd) (k b : Nat) : Int := match t with
  | some hi => hAt hi s k b
  | none => 0
set_option maxHeartbeats 1000000 in
theorem zero_any (b : Bd) (w : World) : Calls Try.prog 67 #[bdV b] w fun e w' => e = .returned (rlV ⟨0, 0, 0⟩) ∧ newer w w' := by
  have hnw := newer_trans (newer_allocH w (.cells (bdC b) 104)) (newer_allocH (w.alloc (.cells (bdC b) 104)) (.cells #[vi 0, vi 0, vi 0] 101))
  have hrb := Whole.made (w.alloc (.cells (bdC b) 104)) 101 #[vi 0, vi 0, vi 0]
  simp only [World.size_alloc] at hrb
  have HZ := Lib.hid (And.intro hnw hrb)
  clear hnw hrb
  go_enter Try.func67, Try.ntmps67
  go_wp2_with fail
  have z0 := HZ.out.2.at 0 (v := vi 0) rfl
  have z1 := HZ.out.2.at 1 (v := vi 0) rfl
  have z2 := HZ.out.2.at 2 (v := vi 0) rfl
  exact bodyPost_ret (v := .agg #[vi 0, vi 0, vi 0]) (by simp [results, Try.results67, go_sem, z0, z1, z2]) rfl ⟨rfl, HZ.out.1⟩
theorem tr_any (t : Option Bool) (b : Bd) (w : World) : Calls Try.prog (trF t) #[bdV b] w fun e w' => e = .returned (rlV (trR t b)) ∧ newer w w' := by
  match t with
  | some false => exact least_any b w
  | some true => exact most_any b w
  | none => exact zero_any b w
theorem call_tr (t : Option Bool) (args : Array Value) (W : World) : (callFunc (trF t) args).run Try.prog W = .ok (.enter (trF t) args) W := by
  match t with
  | some false => simp [trF, go_sem]
  | some true => simp [trF, go_sem]
  | none => simp [trF, go_sem]
theorem tr_bd (t : Option Bool) {b : Bd} (h : bdB b = true) : (0 ≤ (trR t b).fr ∧ (trR t b).fr ≤ 2000) ∧ (0 ≤ (trR t b).co ∧ (trR t b).co ≤ 100000) ∧ (0 ≤ (trR t b).wa ∧ (trR t b).wa ≤ 100000) := by
  obtain ⟨_, _, h3, h4, h5⟩ := bdB_parts h
  match t with
  | some false => simp only [trR, endR, Bool.false_eq_true, if_false]; omega
  | some true => simp only [trR, endR, if_true]; omega
  | none => simp only [trR]; omega
abbrev lkC (s : Sm) (f : Int) (t : Option Bool) : Array Value := #[.slice s.a s.cs.length s.c, vi s.least, vi f, .func (.func (trF t)) #[] #[]]
abbrev lkV (s : Sm) (f : Int) (t : Option Bool) : Value := .agg (lkC s f t)
def costB (f : Int) (t : Option Bool) (b : Bd) : Int := 1000 * holdsN b (trR t b) - f * b.drive
set_option maxRecDepth 100000 in
set_option maxHeartbeats 2000000 in
theorem cost_any (s : Sm) (f : Int) (t : Option Bool) (k j : Nat) (x : Cl) (b : Bd) (w : World) (hok : SmOk s w) (hx : s.cs[k]? = some x) (hb : x.beds[j]? = some b) (hbd : bdB b = true) (f0 : 0 ≤ f) (f1 : f ≤ 10001) :
    Calls Try.prog 84 #[lkV s f t, vi k, vi j] w fun e w' => e = .returned (vi (costB f t b)) ∧ newer w w' := by
  have hnw := newer_allocH w (.cells (lkC s f t) 115)
  have hbx := Whole.made w 115 (lkC s f t)
  have HOK := Lib.hid hok
  have HX := Lib.hid hx
  have HB := Lib.hid hb
  have HBD := Lib.hid hbd
  have hkl : (k : Int) < s.cs.length := by have := (List.getElem?_eq_some_iff.1 hx).1; omega
  have hjl : (j : Int) < x.beds.length := by have := (List.getElem?_eq_some_iff.1 hb).1; omega
  unfold costB
  obtain ⟨y, hy⟩ : ∃ y, y = trR t b := ⟨_, rfl⟩
  obtain ⟨h, hh⟩ : ∃ h, h = holdsN b y := ⟨_, rfl⟩
  have htb := tr_bd t hbd
  have hhb := holds_bd (b := b) (x := y) (bdB_parts hbd).2.1 (by rw [hy]; exact htb.1) (by rw [hy]; exact htb.2.1) (by rw [hy]; exact htb.2.2.1)
  have HT := Lib.hid (fun W => tr_any t b W)
  have HH := Lib.hid (fun W => holds_any b y W (bdB_parts hbd).2.1 (by rw [hy]; exact htb.1) (by rw [hy]; exact htb.2.1) (by rw [hy]; exact htb.2.2))
  rw [← hh] at HH hhb
  rw [← hy] at HT ⊢
  rw [← hh]
  have hdr := (bdB_parts hbd).1
  have m1 := Int.mul_le_mul_of_nonneg_left hdr.1 f0
  have m2 := Int.mul_le_mul_of_nonneg_left hdr.2 f0
  obtain ⟨fd, hfd⟩ : ∃ fd, fd = f * b.drive := ⟨_, rfl⟩
  rw [← hfd] at m1 m2 ⊢
  have c23 : IntKind.i64.wrap (1000 * h) = 1000 * h := IntWalk.i64_in _ (by omega)
  have c28 : IntKind.i64.wrap (f * b.drive) = fd := by rw [← hfd]; exact IntWalk.i64_in _ (by omega)
  have c29 : IntKind.i64.wrap (1000 * h - fd) = 1000 * h - fd := IntWalk.i64_in _ (by omega)
  have HC := Lib.hid (And.intro c23 (And.intro c28 c29))
  clear hok hx hb hbd htb hhb hdr m1 m2 hfd hy hh c23 c28 c29
  have H1 := Lib.hid (And.intro (hnw) (hbx))
  clear hnw hbx
  have x0 := H1.out.2.at 0 (v := .slice s.a s.cs.length s.c) rfl
  have x1 := H1.out.2.at 1 (v := vi s.least) rfl
  have x2 := H1.out.2.at 2 (v := vi f) rfl
  have x3 := H1.out.2.at 3 (v := .func (.func (trF t)) #[] #[]) rfl
  obtain ⟨b1, o1, e1, _, cx⟩ := rowC (HOK.out.next H1.out.1).cs HX.out
  obtain ⟨b2, o2, e2, _, d0, d1, d2, d3, d4, d5, d6, d7⟩ := row8 ((HOK.out.next H1.out.1).bd x (List.mem_of_getElem? HX.out)) HB.out
  rw [e1] at x0
  rw [e2] at cx
  clear e1 e2
  go_enter Try.func84, Try.ntmps84
  go_upto_region 2 with fail
  refine genQ (fun X => newer w X ∧ Whole X w.heap.size 115 (lkC s f t) ∧ Whole X (w.heap.size + 1) 104 (bdC b)) ⟨(newer_trans H1.out.1 (newer_allocH (w.alloc (.cells (lkC s f t) 115)) (.cells (bdC b) 104))), (H1.out.2.below (newer_allocH (w.alloc (.cells (lkC s f t) 115)) (.cells (bdC b) 104)) H1.out.2.lt), (by have h := Whole.made (w.alloc (.cells (lkC s f t) 115)) 104 (bdC b); rw [World.size_alloc] at h; exact h)⟩ ?_
  rintro w2 ⟨g0_, g1_, g2_⟩
  have H3 := Lib.hid (And.intro (g0_) (And.intro (g1_) (g2_)))
  clear g0_ g1_ g2_ H1 x0 x1 x2 x3 cx d0 d1 d2 d3 d4 d5 d6 d7
  have z0 := H3.out.2.2.at 0 (v := vi b.drive) rfl
  have z1 := H3.out.2.2.at 1 (v := vi b.normal) rfl
  have z2 := H3.out.2.2.at 2 (v := vi b.fr.lo) rfl
  have z3 := H3.out.2.2.at 3 (v := vi b.fr.hi) rfl
  have z4 := H3.out.2.2.at 4 (v := vi b.co.lo) rfl
  have z5 := H3.out.2.2.at 5 (v := vi b.co.hi) rfl
  have z6 := H3.out.2.2.at 6 (v := vi b.wa.lo) rfl
  have z7 := H3.out.2.2.at 7 (v := vi b.wa.hi) rfl
  have x2 := H3.out.2.1.at 2 (v := vi f) rfl
  have x3 := H3.out.2.1.at 3 (v := .func (.func (trF t)) #[] #[]) rfl
  refine wp_words (by kernel_rfl) (region_told 13 (by kernel_rfl) (by kernel_rfl) (fun W => Below w2.heap.size w2 W) newer (pickD [vIs (bdV b), vIs (.pointer (some ⟨w.heap.size, 3, none⟩)), vIs (.func (.func (trF t)) #[] #[]), vIs (bdV b), vIs (rlV y), vIs (vi h), vIs (vi (1000 * h)), vIs (.pointer (some ⟨w.heap.size, 2, none⟩)), vIs (vi f), vIs (.pointer (some ⟨(w.heap.size + 1), 0, none⟩)), vIs (vi b.drive), vIs (vi fd), vIs (vi (1000 * h - fd))]) (fun h k => newer_trans h k) (pickD_stable _ ⟨vIs_st, vIs_st, vIs_st, vIs_st, vIs_st, vIs_st, vIs_st, vIs_st, vIs_st, vIs_st, vIs_st, vIs_st, vIs_st, trivial⟩) (Below.refl _ w2).drew (Below.refl _ _) ?_ ?_)
  · refine ⟨?_, ?_, ?_, ?_, ?_, ?_, ?_, ?_, ?_, ?_, ?_, ?_, ?_, trivial⟩
    · intro a W hG hR hO hp
      have h7 := hO.slot 7 (by kernel_rfl)
      have c0 := keep_cell z0 hG
      have c1 := keep_cell z1 hG
      have c2 := keep_cell z2 hG
      have c3 := keep_cell z3 hG
      have c4 := keep_cell z4 hG
      have c5 := keep_cell z5 hG
      have c6 := keep_cell z6 hG
      have c7 := keep_cell z7 hG
      refine wp_yields (v := bdV b) ?_ ⟨_, rfl, rfl, Below.refl _ _, hG⟩
      simp [slotOf] at h7
      simp [execOp, go_sem, h7, c0, c1, c2, c3, c4, c5, c6, c7]
    · intro a W hG hR hO hp
      have h3 := hO.slot 3 (by kernel_rfl)
      refine wp_yields (v := .pointer (some ⟨w.heap.size, 3, none⟩)) ?_ ⟨_, rfl, rfl, Below.refl _ _, hG⟩
      simp [slotOf] at h3
      simp [execOp, go_sem, h3]
    · intro a W hG hR hO hp
      have h18 : slotOf a 18 = .pointer (some ⟨w.heap.size, 3, none⟩) := hp.1
      have c0 := keep_cell x3 hG
      refine wp_yields (v := .func (.func (trF t)) #[] #[]) ?_ ⟨_, rfl, rfl, Below.refl _ _, hG⟩
      simp [slotOf] at h18
      simp [execOp, go_sem, h18, c0]
    · intro a W hG hR hO hp
      have h7 := hO.slot 7 (by kernel_rfl)
      have c0 := keep_cell z0 hG
      have c1 := keep_cell z1 hG
      have c2 := keep_cell z2 hG
      have c3 := keep_cell z3 hG
      have c4 := keep_cell z4 hG
      have c5 := keep_cell z5 hG
      have c6 := keep_cell z6 hG
      have c7 := keep_cell z7 hG
      refine wp_yields (v := bdV b) ?_ ⟨_, rfl, rfl, Below.refl _ _, hG⟩
      simp [slotOf] at h7
      simp [execOp, go_sem, h7, c0, c1, c2, c3, c4, c5, c6, c7]
    · intro a W hG hR hO hp
      have h19 : slotOf a 19 = .func (.func (trF t)) #[] #[] := hp.1
      have h20 : slotOf a 20 = bdV b := hp.2.1
      refine wp_enters (f := (trF t)) (args := #[bdV b]) ?_ ((HT.out W).mono ?_)
      · simp [slotOf] at h19 h20
        simp [execOp, go_sem, h19, h20, call_tr]
      · rintro e w' ⟨rfl, hb⟩
        exact ⟨_, rfl, _, rfl, rfl, hb, below_next hG hb⟩
    · intro a W hG hR hO hp
      have h17 : slotOf a 17 = bdV b := hp.1
      have h21 : slotOf a 21 = rlV y := hp.2.1
      refine wp_enters (f := 89) (args := #[bdV b, rlV y]) ?_ ((HH.out W).mono ?_)
      · simp [slotOf] at h17 h21
        simp [go_sem, h17, h21]
      · rintro e w' ⟨rfl, hb⟩
        exact ⟨_, rfl, _, rfl, rfl, hb, below_next hG hb⟩
    · intro a W hG hR hO hp
      have h22 : slotOf a 22 = vi h := hp.1
      refine wp_yields (v := vi (1000 * h)) ?_ ⟨_, rfl, rfl, Below.refl _ _, hG⟩
      simp [slotOf] at h22
      simp [execOp, go_sem, h22, HC.out.1]
    · intro a W hG hR hO hp
      have h3 := hO.slot 3 (by kernel_rfl)
      refine wp_yields (v := .pointer (some ⟨w.heap.size, 2, none⟩)) ?_ ⟨_, rfl, rfl, Below.refl _ _, hG⟩
      simp [slotOf] at h3
      simp [execOp, go_sem, h3]
    · intro a W hG hR hO hp
      have h24 : slotOf a 24 = .pointer (some ⟨w.heap.size, 2, none⟩) := hp.1
      have c0 := keep_cell x2 hG
      refine wp_yields (v := vi f) ?_ ⟨_, rfl, rfl, Below.refl _ _, hG⟩
      simp [slotOf] at h24
      simp [execOp, go_sem, h24, c0]
    · intro a W hG hR hO hp
      have h7 := hO.slot 7 (by kernel_rfl)
      refine wp_yields (v := .pointer (some ⟨(w.heap.size + 1), 0, none⟩)) ?_ ⟨_, rfl, rfl, Below.refl _ _, hG⟩
      simp [slotOf] at h7
      simp [execOp, go_sem, h7]
    · intro a W hG hR hO hp
      have h26 : slotOf a 26 = .pointer (some ⟨(w.heap.size + 1), 0, none⟩) := hp.1
      have c0 := keep_cell z0 hG
      refine wp_yields (v := vi b.drive) ?_ ⟨_, rfl, rfl, Below.refl _ _, hG⟩
      simp [slotOf] at h26
      simp [execOp, go_sem, h26, c0]
    · intro a W hG hR hO hp
      have h25 : slotOf a 25 = vi f := hp.1
      have h27 : slotOf a 27 = vi b.drive := hp.2.1
      refine wp_yields (v := vi fd) ?_ ⟨_, rfl, rfl, Below.refl _ _, hG⟩
      simp [slotOf] at h25 h27
      simp [execOp, go_sem, h25, h27, HC.out.2.1]
    · intro a W hG hR hO hp
      have h23 : slotOf a 23 = vi (1000 * h) := hp.1
      have h28 : slotOf a 28 = vi fd := hp.2.1
      refine wp_yields (v := vi (1000 * h - fd)) ?_ ⟨_, rfl, rfl, Below.refl _ _, hG⟩
      simp [slotOf] at h23 h28
      simp [execOp, go_sem, h23, h28, HC.out.2.2]
  · intro wz hG hR
    rintro _ rfl _ rfl _ rfl _ rfl _ rfl _ rfl _ rfl _ rfl _ rfl _ rfl _ rfl _ rfl _ rfl
    change wpList _ _ _ _ _ _
    simp only [Act.put, List.setIfInBounds_toArray, List.set_cons_zero, List.set_cons_succ, List.drop_succ_cons, List.drop_zero]
    clear hR
    have H4 := Lib.hid (And.intro ((newer_trans H3.out.1 hG)) (And.intro ((H3.out.2.1.below hG H3.out.2.1.lt)) ((H3.out.2.2.below hG H3.out.2.2.lt))))
    clear hG H3 z0 z1 z2 z3 z4 z5 z6 z7 x2 x3
    go_wp2_with fail
    go_ret
    exact ⟨rfl, H4.out.1⟩
set_option maxHeartbeats 1000000 in
theorem beds_any (s : Sm) (f : Int) (t : Option Bool) (x : Cl) (w : World) (hok : SmOk s w) (hx : s.cs[0]? = some x) : Calls Try.prog 81 #[lkV s f t] w fun e w' => e = .returned (vi x.beds.length) ∧ newer w w' := by
  have hnw := newer_allocH w (.cells (lkC s f t) 115)
  have hbx := Whole.made w 115 (lkC s f t)
  have HN := Lib.hid hnw
  have hl : (0 : Int) < s.cs.length := by have := (List.getElem?_eq_some_iff.1 hx).1; omega
  have x0 := hbx.at 0 (v := .slice s.a s.cs.length s.c) rfl
  obtain ⟨b1, o1, e1, _, cx⟩ := rowC (hok.next hnw).cs hx
  rw [e1] at x0
  simp only [Nat.add_zero] at cx
  clear hnw hbx hok hx e1
  go_enter Try.func81, Try.ntmps81
  go_wp2_with fail
  go_ret
  exact ⟨rfl, HN.out⟩
set_option maxHeartbeats 1000000 in
theorem below_any (s : Sm) (f : Int) (w : World) : Calls Try.prog 65 #[smV s, vi f] w fun e w' => e = .returned (lkV s f (some false)) ∧ newer w w' := by
  have hrb := Whole.made (w.alloc (.cells (smC s) 37)) 115 #[.slice s.a s.cs.length s.c, vi s.least, vi f, .func (.func 61) #[] #[]]
  simp only [World.size_alloc] at hrb
  have HZ := Lib.hid (And.intro (newer_trans (newer_allocH w (.cells (smC s) 37)) (newer_allocH (w.alloc (.cells (smC s) 37)) (.cells #[.slice s.a s.cs.length s.c, vi s.least, vi f, .func (.func 61) #[] #[]] 115))) hrb)
  have hbx := Whole.made w 37 (smC s)
  have x0 := hbx.at 0 (v := .slice s.a s.cs.length s.c) rfl
  have x1 := hbx.at 1 (v := vi s.least) rfl
  clear hrb hbx
  go_enter Try.func65, Try.ntmps65
  go_wp2_with fail
  have z0 := HZ.out.2.at 0 (v := .slice s.a s.cs.length s.c) rfl
  have z1 := HZ.out.2.at 1 (v := vi s.least) rfl
  have z2 := HZ.out.2.at 2 (v := vi f) rfl
  have z3 := HZ.out.2.at 3 (v := .func (.func 61) #[] #[]) rfl
  exact bodyPost_ret (v := .agg #[.slice s.a s.cs.length s.c, vi s.least, vi f, .func (.func 61) #[] #[]]) (by simp [results, Try.results65, go_sem, z0, z1, z2, z3]) rfl ⟨rfl, HZ.out.1⟩
set_option maxHeartbeats 1000000 in
theorem min2_any (a b : Int) (nb c : Nat) (w : World) (hw : Whole w nb 3 #[vi a, vi b]) : Calls Try.prog 101 #[.slice (some ⟨nb, 0, none⟩) 2 c] w fun e w' => e = .returned (vi (mnI a b)) ∧ w = w' := by
  have c0 := hw.at 0 (v := vi a) rfl
  have c1 := hw.at 1 (v := vi b) rfl
  clear hw
  by_cases h : b < a
  · have e : mnI a b = b := by unfold mnI; rw [if_pos h]
    have h2 : ¬ a < b := by omega
    rw [e]
    clear e
    go_enter Try.func101, Try.ntmps101
    go_wp2_with fail
    go_loop [3, 4] (fun s3 s4 => (s4 = vi 1 ∧ s3 = vi a) ∨ (s4 = vi 2 ∧ s3 = vi b)) (fun _ s4 => 2 - (intOf s4).toNat)
    case atStart => exact .inl ⟨rfl, rfl⟩
    case round =>
      rcases hrel with ⟨rfl, rfl⟩ | ⟨rfl, rfl⟩
      · go_wp2_with fail
        all_goals first
          | (exfalso; omega)
          | (go_round
             case rel => exact .inr ⟨rfl, rfl⟩
             case measure => simp [intOf])
      · go_wp2_with fail
        go_ret
        exact ⟨rfl, rfl⟩
  · have e : mnI a b = a := by unfold mnI; rw [if_neg h]
    rw [e]
    clear e
    go_enter Try.func101, Try.ntmps101
    go_wp2_with fail
    go_loop [3, 4] (fun s3 s4 => (s4 = vi 1 ∧ s3 = vi a) ∨ (s4 = vi 2 ∧ s3 = vi a)) (fun _ s4 => 2 - (intOf s4).toNat)
    case atStart => exact .inl ⟨rfl, rfl⟩
    case round =>
      rcases hrel with ⟨rfl, rfl⟩ | ⟨rfl, rfl⟩
      · go_wp2_with fail
        all_goals first
          | (exfalso; omega)
          | (go_round
             case rel => exact .inr ⟨rfl, rfl⟩
             case measure => simp [intOf])
      · go_wp2_with fail
        go_ret
        exact ⟨rfl, rfl⟩
set_option maxHeartbeats 1000000 in
theorem least2_any (a b : Int) (nb c : Nat) (w : World) (hw : Whole w nb 3 #[vi a, vi b]) : Calls Try.prog 83 #[.slice (some ⟨nb, 0, none⟩) 2 c] w fun e w' => e = .returned (vi (mnI a b)) ∧ w = w' := by
  have HM := Lib.hid (min2_any a b nb c w hw)
  obtain ⟨m, hm⟩ : ∃ m, m = mnI a b := ⟨_, rfl⟩
  rw [← hm] at HM ⊢
  clear hm hw
  go_enter Try.func83, Try.ntmps83
  go_wp2_with fail
  refine (HM.out).mono ?_
  rintro e w' ⟨rfl, rfl⟩
  go_wp2_with fail
  go_ret
  exact ⟨rfl, rfl⟩

end Go.Proofs.Ytkenokpobbichaa
