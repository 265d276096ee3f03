/- The best stake, and its worst: the walk. -/
import Derived.Test.YtpmafnifgegfbaaCD
namespace Go.Proofs.Ytpmafnifgegfbaa
open Go.RowKit Go.Shelf Go.Deep

/-- May a tool be a stake? -/
def stkB (s : Sd) (t : Tl) : Bool := tlB s.spots.length s.day t && decide (t.turn = 0)
set_option maxRecDepth 100000 in
set_option maxHeartbeats 2000000 in
theorem stk_any (y : Sm) (t : Tl) (sb : Nat) (w : World) (hb : Whole w sb 40 (smC y)) (h6 : y.s.spots.length ≤ 1000000) : Calls Try.prog 82 #[tlV t, .pointer (some ⟨sb, 0, none⟩)] w fun e w' => e = .returned (.bool (stkB y.s t)) ∧ Below w.heap.size w w' := by
  have hn := newer_allocH w (.cells (tlC t) 112)
  have hx := hb.alloc (.cells (tlC t) 112)
  have ht := Whole.made w 112 (tlC t)
  have HN := Lib.hid (And.intro hn ht)
  have x0 := hx.at 0 (v := .slice y.sa y.s.spots.length y.sc) rfl
  have x1 := hx.at 1 (v := vi y.s.strain) rfl
  have x2 := hx.at 2 (v := .slice y.ta y.s.tools.length y.tc) rfl
  have x3 := hx.at 3 (v := vi y.s.day) rfl
  have x4 := hx.at 4 (v := .slice y.ra y.s.reads.length y.rc) rfl
  have t0 := ht.at 0 (v := vi t.spot) rfl
  have t1 := ht.at 1 (v := vi t.a) rfl
  have t2 := ht.at 2 (v := vi t.b) rfl
  have t3 := ht.at 3 (v := vi t.turn) rfl
  have t4 := ht.at 4 (v := vi t.err) rfl
  have t5 := ht.at 5 (v := vi t.drift) rfl
  have t6 := ht.at 6 (v := vi t.since) rfl
  have HC := Lib.hid (tool_any y t (w.alloc (.cells (tlC t) 112)) h6)
  unfold stkB
  obtain ⟨b, hbb⟩ : ∃ b, b = tlB y.s.spots.length y.s.day t := ⟨_, rfl⟩
  rw [← hbb] at HC ⊢
  clear hn hx ht hb hbb h6
  go_enter Try.func82, Try.ntmps82
  go_wp2_with fail
  refine (HC.out).mono ?_
  rintro e w1 ⟨rfl, hb⟩
  have HN1 := Lib.hid (newer_trans HN.out.1 hb)
  have ht1 := HN.out.2.below hb HN.out.2.lt
  clear hb HC x0 x1 x2 x3 x4 t0 t1 t2 t3 t4 t5 t6
  have t3 := ht1.at 3 (v := vi t.turn) rfl
  clear ht1
  cases b with
  | false =>
    clear t3
    go_wp2_with fail
    go_ret
    exact ⟨rfl, HN1.out⟩
  | true =>
    obtain ⟨T, hT⟩ : ∃ q, q = t.turn := ⟨_, rfl⟩
    rw [← hT] at t3
    have HTE := Lib.hid hT
    clear hT
    by_cases h0 : T = 0
    · subst h0
      go_wp2_with fail
      go_ret
      exact ⟨by rw [← HTE.out]; rfl, HN1.out⟩
    · have h1 : (T == 0) = false := by simpa using h0
      have HD : Hid (decide (t.turn = 0) = false) := Lib.hid (decide_eq_false fun h => h0 (HTE.out.trans h))
      go_wp2_with fail
      go_ret
      exact ⟨by rw [HD.out]; rfl, HN1.out⟩
set_option maxHeartbeats 400000 in
theorem notStk_any (x : Tl) (rb sb : Nat) (b : Bool) (w : World) (hr : w.cell? ⟨rb, 0, none⟩ = some (.func (.func 82) #[] #[.pointer (some ⟨sb, 0, none⟩)]))
    (hf : ∀ W, Below w.heap.size w W → Calls Try.prog 82 #[tlV x, .pointer (some ⟨sb, 0, none⟩)] W fun e w' => e = .returned (.bool b) ∧ Below W.heap.size W w') :
    Calls Try.prog 115 #[tlV x, .pointer (some ⟨rb, 0, none⟩)] w fun e w' => e = .returned (.bool (!b)) ∧ Below w.heap.size w w' := by
  have HF := Lib.hid hf
  have hlt := World.block_lt_of_cell? w _ hr
  dsimp only at hlt
  clear hf
  go_enter Try.func115, Try.ntmps115
  go_wp2_with (go_at_call 82; refine (HF.out _ ((Below.refl _ _).alloc (Nat.le_refl _) _)).mono ?_; rintro e w' ⟨rfl, hb⟩)
  go_ret
  exact ⟨rfl, below_step ((Below.refl _ _).alloc (Nat.le_refl _) _) hb (by simp)⟩
set_option maxHeartbeats 400000 in
theorem allStk_any (y : Sm) (l : List Tl) (cp sb : Nat) (A : Option Addr) (w : World) (hb : Whole w sb 40 (smC y)) (h6 : y.s.spots.length ≤ 1000000) (hn : l.length ≤ 1000) (hrow : Row tlL 7 w w.heap.size A l) :
    Calls Try.prog 81 #[.slice A l.length cp, .func (.func 82) #[] #[.pointer (some ⟨sb, 0, none⟩)]] w fun e w' => e = .returned (.bool (l.all (stkB y.s))) ∧ Below w.heap.size w w' := by
  have hna := newer_allocH w (.cells #[.func (.func 82) #[] #[.pointer (some ⟨sb, 0, none⟩)]] 151)
  have hX := containsTl_any l (fun c => !stkB y.s c) cp w.heap.size A (w.alloc (.cells #[.func (.func 82) #[] #[.pointer (some ⟨sb, 0, none⟩)]] 151)) hn (hrow_ok hrow _) (fun c hc W hW => notStk_any c w.heap.size sb (stkB y.s c) W (keep_cell (Whole.at (Whole.made w 151 #[.func (.func 82) #[] #[.pointer (some ⟨sb, 0, none⟩)]]) 0 rfl) hW) fun W' hW' => stk_any y c sb W' (hb.below (newer_trans hna (newer_trans hW hW')) hb.lt) h6)
  have HX := Lib.hid hX
  clear hX hna
  go_enter Try.func81, Try.ntmps81
  go_wp2_with (go_at_call 114; refine (HX.out).mono ?_; rintro e w' ⟨rfl, hb2⟩)
  go_ret
  exact ⟨ret_bool (idx_all (stkB y.s) l), below_next ((Below.refl _ _).alloc (Nat.le_refl _) _) hb2⟩
/-- The error of stakes. -/
def stakeE (s : Sd) (ts : List Tl) : Int := if errN s = 0 then (if inB ts.length 1 8 = true then (if ts.all (stkB s) = true then 0 else 1) else 2) else errN s
/-- The best of the first stakes, and its worst. -/
def bestK (s : Sd) (ts : List Tl) : Nat → Int × Int
  | 0 => (0, 0)
  | k + 1 => match ts[k]? with
    | some t => if k = 0 ∨ worstS s t < (bestK s ts k).2 then ((k : Int), worstS s t) else bestK s ts k
    | none => bestK s ts k
theorem bestK_succ {s : Sd} {ts : List Tl} {k : Nat} {t : Tl} (h : ts[k]? = some t) : bestK s ts (k + 1) = if k = 0 ∨ worstS s t < (bestK s ts k).2 then ((k : Int), worstS s t) else bestK s ts k := by rw [bestK, h]
def bestE (s : Sd) (ts : List Tl) : Int := if stakeE s ts = 0 then posE (allT s) else stakeE s ts
def bestP (s : Sd) (ts : List Tl) : Int × Int := if bestE s ts = 0 then bestK s ts ts.length else (0, 0)
theorem pt_flat : ∀ ls : List Nat, ls.flatMap ptL = ls.map ptV
  | [] => rfl
  | l :: ls => by rw [List.flatMap_cons, List.map_cons, pt_flat ls]; rfl
set_option maxRecDepth 100000 in
set_option maxHeartbeats 4000000 in
theorem best_err (y : Sm) (ts : List Tl) (A : Option Addr) (c : Nat) (w : World) (hok : SmOk y w) (few : SmFew y) (he : errN y.s ≠ 0) : Calls Try.prog 53 #[smV y, .slice A ts.length c] w fun e w' => e = .returned (.tuple #[vi 0, vi 0, vi (errN y.s)]) ∧ newer w w' := by
  have hnw := newer_allocH w (.cells (smC y) 40)
  have HC := Lib.hid (check_any y _ (hok.next hnw) few)
  have HN := Lib.hid hnw
  have HOK := Lib.hid hok
  have hbx := Whole.made w 40 (smC y)
  have x0 := hbx.at 0 (v := .slice y.sa y.s.spots.length y.sc) rfl
  have x1 := hbx.at 1 (v := vi y.s.strain) rfl
  have x2 := hbx.at 2 (v := .slice y.ta y.s.tools.length y.tc) rfl
  have x3 := hbx.at 3 (v := vi y.s.day) rfl
  have x4 := hbx.at 4 (v := .slice y.ra y.s.reads.length y.rc) rfl
  have HBX := Lib.hid hbx
  clear hnw hok few hbx
  obtain ⟨p, hp⟩ : ∃ q, q = errN y.s := ⟨_, rfl⟩
  rw [← hp] at HC he ⊢
  clear hp
  go_enter Try.func53, Try.ntmps53
  go_wp2_with fail
  refine (HC.out).mono ?_
  rintro e w1 ⟨rfl, hb⟩
  have HE := Lib.hid (newer_trans HN.out hb)
  clear hb HC x0 x1 x2 x3 x4
  go_wp2_with fail
  go_ret3
  exact ⟨rfl, HE.out⟩
set_option maxRecDepth 100000 in
set_option maxHeartbeats 4000000 in
theorem best_few (y : Sm) (ts : List Tl) (A : Option Addr) (c : Nat) (w : World) (hok : SmOk y w) (few : SmFew y) (he : errN y.s = 0) (hn : inB ts.length 1 8 = false) : Calls Try.prog 53 #[smV y, .slice A ts.length c] w fun e w' => e = .returned (.tuple #[vi 0, vi 0, vi 2]) ∧ newer w w' := by
  have hnw := newer_allocH w (.cells (smC y) 40)
  have HC := Lib.hid (check_any y _ (hok.next hnw) few)
  have HN := Lib.hid hnw
  have HOK := Lib.hid hok
  have hbx := Whole.made w 40 (smC y)
  have x0 := hbx.at 0 (v := .slice y.sa y.s.spots.length y.sc) rfl
  have x1 := hbx.at 1 (v := vi y.s.strain) rfl
  have x2 := hbx.at 2 (v := .slice y.ta y.s.tools.length y.tc) rfl
  have x3 := hbx.at 3 (v := vi y.s.day) rfl
  have x4 := hbx.at 4 (v := .slice y.ra y.s.reads.length y.rc) rfl
  have HBX := Lib.hid hbx
  clear hnw hok few hbx
  rw [he] at HC
  have HS := Lib.hid (err_iff.1 he)
  clear he
  go_enter Try.func53, Try.ntmps53
  go_wp2_with fail
  refine (HC.out).mono ?_
  rintro e w1 ⟨rfl, hb⟩
  have HE := Lib.hid (newer_trans HN.out hb)
  have HX1 := Lib.hid (HBX.out.below hb HBX.out.lt)
  clear hb HC x0 x1 x2 x3 x4
  go_wp2_with fail
  refine (within_any (ts.length : Int) 1 8 w1).mono ?_
  rintro e w2 ⟨rfl, hw2⟩
  subst hw2
  rw [hn]
  go_wp2_with fail
  go_ret3
  exact ⟨rfl, HE.out⟩
set_option maxRecDepth 100000 in
set_option maxHeartbeats 4000000 in
theorem best_arg (y : Sm) (ts : List Tl) (A : Option Addr) (c : Nat) (w : World) (hok : SmOk y w) (few : SmFew y) (hts : Row tlL 7 w w.heap.size A ts) (he : errN y.s = 0) (hn : inB ts.length 1 8 = true) (hal : ts.all (stkB y.s) = false) : Calls Try.prog 53 #[smV y, .slice A ts.length c] w fun e w' => e = .returned (.tuple #[vi 0, vi 0, vi 1]) ∧ newer w w' := by
  have hnw := newer_allocH w (.cells (smC y) 40)
  have HC := Lib.hid (check_any y _ (hok.next hnw) few)
  have HN := Lib.hid hnw
  have HOK := Lib.hid hok
  have hbx := Whole.made w 40 (smC y)
  have x0 := hbx.at 0 (v := .slice y.sa y.s.spots.length y.sc) rfl
  have x1 := hbx.at 1 (v := vi y.s.strain) rfl
  have x2 := hbx.at 2 (v := .slice y.ta y.s.tools.length y.tc) rfl
  have x3 := hbx.at 3 (v := vi y.s.day) rfl
  have x4 := hbx.at 4 (v := .slice y.ra y.s.reads.length y.rc) rfl
  have HBX := Lib.hid hbx
  clear hnw hok few hbx
  have HTS := Lib.hid hts
  clear hts
  rw [he] at HC
  have HS := Lib.hid (err_iff.1 he)
  clear he
  go_enter Try.func53, Try.ntmps53
  go_wp2_with fail
  refine (HC.out).mono ?_
  rintro e w1 ⟨rfl, hb⟩
  have HE := Lib.hid (newer_trans HN.out hb)
  have HX1 := Lib.hid (HBX.out.below hb HBX.out.lt)
  clear hb HC x0 x1 x2 x3 x4
  go_wp2_with fail
  refine (within_any (ts.length : Int) 1 8 w1).mono ?_
  rintro e w2 ⟨rfl, hw2⟩
  subst hw2
  have HAL := Lib.hid (allStk_any y ts c w.heap.size A w1 HX1.out (by have := HS.out.spots; omega) (by unfold inB at hn; simp at hn; omega) ((HTS.out.below HE.out).more HE.out.size))
  rw [hn]
  have HNB := Lib.hid hn
  clear hn
  rw [hal] at HAL
  go_wp2_with fail
  refine (HAL.out).mono ?_
  rintro e w3 ⟨rfl, hb⟩
  have HE3 := Lib.hid (And.intro (newer_trans HE.out hb) (HX1.out.below hb HX1.out.lt))
  clear hb HAL hal
  go_wp2_with fail
  go_ret3
  exact ⟨rfl, HE3.out.1⟩
set_option maxRecDepth 100000 in
set_option maxHeartbeats 4000000 in
theorem best_pos (y : Sm) (ts : List Tl) (A : Option Addr) (c : Nat) (w : World) (hok : SmOk y w) (few : SmFew y) (hts : Row tlL 7 w w.heap.size A ts) (he : errN y.s = 0) (hn : inB ts.length 1 8 = true) (hal : ts.all (stkB y.s) = true) (hp : posE (allT y.s) ≠ 0) : Calls Try.prog 53 #[smV y, .slice A ts.length c] w fun e w' => e = .returned (.tuple #[vi 0, vi 0, vi (posE (allT y.s))]) ∧ newer w w' := by
  have hnw := newer_allocH w (.cells (smC y) 40)
  have HC := Lib.hid (check_any y _ (hok.next hnw) few)
  have HN := Lib.hid hnw
  have HOK := Lib.hid hok
  have hbx := Whole.made w 40 (smC y)
  have x0 := hbx.at 0 (v := .slice y.sa y.s.spots.length y.sc) rfl
  have x1 := hbx.at 1 (v := vi y.s.strain) rfl
  have x2 := hbx.at 2 (v := .slice y.ta y.s.tools.length y.tc) rfl
  have x3 := hbx.at 3 (v := vi y.s.day) rfl
  have x4 := hbx.at 4 (v := .slice y.ra y.s.reads.length y.rc) rfl
  have HBX := Lib.hid hbx
  clear hnw hok few hbx
  have HP := Lib.hid hp
  obtain ⟨p, hpp⟩ : ∃ q, q = posE (allT y.s) := ⟨_, rfl⟩
  rw [← hpp] at hp ⊢
  have HPP := Lib.hid hpp
  clear hpp
  have HTS := Lib.hid hts
  clear hts
  rw [he] at HC
  have HS := Lib.hid (err_iff.1 he)
  clear he
  go_enter Try.func53, Try.ntmps53
  go_wp2_with fail
  refine (HC.out).mono ?_
  rintro e w1 ⟨rfl, hb⟩
  have HE := Lib.hid (newer_trans HN.out hb)
  have HX1 := Lib.hid (HBX.out.below hb HBX.out.lt)
  clear hb HC x0 x1 x2 x3 x4
  go_wp2_with fail
  refine (within_any (ts.length : Int) 1 8 w1).mono ?_
  rintro e w2 ⟨rfl, hw2⟩
  subst hw2
  have HAL := Lib.hid (allStk_any y ts c w.heap.size A w1 HX1.out (by have := HS.out.spots; omega) (by unfold inB at hn; simp at hn; omega) ((HTS.out.below HE.out).more HE.out.size))
  rw [hn]
  have HNB := Lib.hid hn
  clear hn
  rw [hal] at HAL
  go_wp2_with fail
  refine (HAL.out).mono ?_
  rintro e w3 ⟨rfl, hb⟩
  have HE3 := Lib.hid (And.intro (newer_trans HE.out hb) (HX1.out.below hb HX1.out.lt))
  clear hb HAL hal
  have x0 := HE3.out.2.at 0 (v := .slice y.sa y.s.spots.length y.sc) rfl
  have x1 := HE3.out.2.at 1 (v := vi y.s.strain) rfl
  have x2 := HE3.out.2.at 2 (v := .slice y.ta y.s.tools.length y.tc) rfl
  have x3 := HE3.out.2.at 3 (v := vi y.s.day) rfl
  have x4 := HE3.out.2.at 4 (v := .slice y.ra y.s.reads.length y.rc) rfl
  have HL := Lib.hid (possible_bad y w3 (HOK.out.next HE3.out.1) HS.out HP.out)
  rw [← HPP.out] at HL
  go_wp2_with fail
  refine (HL.out).mono ?_
  rintro e w4 ⟨rfl, hb⟩
  have HE4 := Lib.hid (newer_trans HE3.out.1 hb)
  clear hb HL x0 x1 x2 x3 x4
  go_wp2_with fail
  go_ret3
  exact ⟨rfl, HE4.out⟩
set_option maxRecDepth 100000 in
set_option maxHeartbeats 4000000 in
theorem best_ok (y : Sm) (ts : List Tl) (A : Option Addr) (c : Nat) (w : World) (hok : SmOk y w) (few : SmFew y) (hts : Row tlL 7 w w.heap.size A ts) (he : errN y.s = 0) (hn : inB ts.length 1 8 = true) (hal : ts.all (stkB y.s) = true) (hp : posE (allT y.s) = 0) : Calls Try.prog 53 #[smV y, .slice A ts.length c] w fun e w' => e = .returned (.tuple #[vi (bestK y.s ts ts.length).1, vi (bestK y.s ts ts.length).2, vi 0]) ∧ newer w w' := by
  have hnw := newer_allocH w (.cells (smC y) 40)
  have HC := Lib.hid (check_any y _ (hok.next hnw) few)
  have HN := Lib.hid hnw
  have HOK := Lib.hid hok
  have hbx := Whole.made w 40 (smC y)
  have x0 := hbx.at 0 (v := .slice y.sa y.s.spots.length y.sc) rfl
  have x1 := hbx.at 1 (v := vi y.s.strain) rfl
  have x2 := hbx.at 2 (v := .slice y.ta y.s.tools.length y.tc) rfl
  have x3 := hbx.at 3 (v := vi y.s.day) rfl
  have x4 := hbx.at 4 (v := .slice y.ra y.s.reads.length y.rc) rfl
  have HBX := Lib.hid hbx
  clear hnw hok few hbx
  have HP := Lib.hid hp
  have HTK : Hid (∀ (k : Nat) (t : Tl), ts[k]? = some t → TlOk y.s.spots.length y.s.day t) := Lib.hid (fun k t hk => by
    have h := List.all_eq_true.1 hal t (List.mem_of_getElem? hk)
    unfold stkB at h
    rw [Bool.and_eq_true] at h
    exact tlB_iff.1 h.1)
  have HN8 : Hid (1 ≤ ts.length ∧ ts.length ≤ 8) := Lib.hid (by unfold inB at hn; simp at hn; omega)
  clear hp
  have HTS := Lib.hid hts
  clear hts
  rw [he] at HC
  have HS := Lib.hid (err_iff.1 he)
  clear he
  go_enter Try.func53, Try.ntmps53
  go_wp2_with fail
  refine (HC.out).mono ?_
  rintro e w1 ⟨rfl, hb⟩
  have HE := Lib.hid (newer_trans HN.out hb)
  have HX1 := Lib.hid (HBX.out.below hb HBX.out.lt)
  clear hb HC x0 x1 x2 x3 x4
  go_wp2_with fail
  refine (within_any (ts.length : Int) 1 8 w1).mono ?_
  rintro e w2 ⟨rfl, hw2⟩
  subst hw2
  have HAL := Lib.hid (allStk_any y ts c w.heap.size A w1 HX1.out (by have := HS.out.spots; omega) (by unfold inB at hn; simp at hn; omega) ((HTS.out.below HE.out).more HE.out.size))
  rw [hn]
  have HNB := Lib.hid hn
  clear hn
  rw [hal] at HAL
  go_wp2_with fail
  refine (HAL.out).mono ?_
  rintro e w3 ⟨rfl, hb⟩
  have HE3 := Lib.hid (And.intro (newer_trans HE.out hb) (HX1.out.below hb HX1.out.lt))
  clear hb HAL hal
  have x0 := HE3.out.2.at 0 (v := .slice y.sa y.s.spots.length y.sc) rfl
  have x1 := HE3.out.2.at 1 (v := vi y.s.strain) rfl
  have x2 := HE3.out.2.at 2 (v := .slice y.ta y.s.tools.length y.tc) rfl
  have x3 := HE3.out.2.at 3 (v := vi y.s.day) rfl
  have x4 := HE3.out.2.at 4 (v := .slice y.ra y.s.reads.length y.rc) rfl
  have HL := Lib.hid (possible_ok y w3 (HOK.out.next HE3.out.1) HS.out HP.out)
  go_wp2_with fail
  refine (HL.out).mono ?_
  rintro e w4 ⟨xs, ls, A1, c1, A2, c2, rfl, hb, hfo⟩
  have HE4 := Lib.hid (And.intro (newer_trans HE3.out.1 hb) (HE3.out.2.below hb HE3.out.2.lt))
  have hT := List.take_of_length_le (posE_ok HP.out).1
  have HLL : Hid (ls.length = (allT y.s).length ∧ ls.length ≤ 60) := Lib.hid (by have h1 := hfo.ll; rw [hT] at h1; have h2 := (posE_ok HP.out).1; omega)
  have HLR : Hid (Row ptL 1 w4 w4.heap.size A2 ls) := Lib.hid (row_of_own (enc := ptL) (size := 1) (by decide) (fun _ => rfl) (by have h := hfo.r2; rw [← pt_flat] at h; exact h))
  have HLK : Hid (∀ (i : Nat) (k : List (Option Int)) (l : Nat), (allT y.s)[i]? = some k → ls[i]? = some l → ∃ B ms A c, LookOk y k B l ms A c w4) := Lib.hid (fun i k l h1 h2 => by
    obtain ⟨ms, A, c, h⟩ := hfo.lk i k l (by rw [hT]; exact h1) h2
    exact ⟨_, ms, A, c, h⟩)
  have HWO : Hid (∀ (k : Nat) (t : Tl) (W : World), ts[k]? = some t → newer w4 W → Calls Try.prog 84 #[smV y, tlV t, .slice A2 ls.length c2] W fun e w' => e = .returned (vi (worstS y.s t)) ∧ newer W w') := Lib.hid (fun k t W hk hW => worst_any y t ls A2 c2 W HS.out (HTK.out k t hk) ((HLR.out.below hW).more hW.size) HLL.out.1 HLL.out.2 (fun i k l h1 h2 => by
    obtain ⟨B, ms, A, c, h⟩ := HLK.out i k l h1 h2
    exact ⟨B, ms, A, c, h.next hW⟩))
  clear hb hfo hT HL HLR HLK x0 x1 x2 x3 x4
  obtain ⟨n, hn⟩ : ∃ n, n = ts.length := ⟨_, rfl⟩
  have hn8 : n ≤ 8 := by rw [hn]; exact HN8.out.2
  rw [← hn]
  have HNN := Lib.hid hn
  clear hn
  go_wp2_with fail
  try go_frame
  go_loopw [4, 5, 39] (fun s4 s5 s39 wr => ∃ k : Nat, k ≤ n ∧ s4 = vi (bestK y.s ts k).1 ∧ s5 = vi (bestK y.s ts k).2 ∧ s39 = vi k ∧ newer w4 wr) (fun _ _ s39 _ => n - (intOf s39).toNat)
  case atStart => exact ⟨0, Nat.zero_le _, rfl, rfl, rfl, newer_refl _⟩
  case round =>
    obtain ⟨k, hk, rfl, rfl, rfl, hnw⟩ := hrel
    have HW := Lib.hid hnw
    obtain ⟨b1, hb1⟩ : ∃ q, q = (bestK y.s ts k).1 := ⟨_, rfl⟩
    obtain ⟨b2, hb2⟩ : ∃ q, q = (bestK y.s ts k).2 := ⟨_, rfl⟩
    rw [← hb1, ← hb2]
    have HB := Lib.hid (And.intro hb1 hb2)
    clear hb1 hb2
    by_cases hlt : k < n
    · have hkn : (k : Int) < n := by omega
      obtain ⟨t, htk⟩ : ∃ t, ts[k]? = some t := ⟨_, List.getElem?_eq_getElem (by rw [← HNN.out]; exact hlt)⟩
      obtain ⟨tb, tof, rfl, -, t0, t1, t2, t3, t4, t5, t6⟩ := row7 (HTS.out.below (newer_trans HE4.out.1 hnw)) htk
      have HTT := Lib.hid htk
      have HLT := Lib.hid hlt
      clear hnw htk
      go_upto_region 14 with fail
      obtain ⟨gb, hgb⟩ : ∃ q, q = wr.heap.size := ⟨_, rfl⟩
      try rw [← hgb]
      refine genQ (fun X => newer wr X ∧ Whole X gb 112 (tlC t)) ⟨newer_allocH _ _, by rw [hgb]; exact Whole.made _ _ _⟩ ?_
      clear hgb t0 t1 t2 t3 t4 t5 t6
      rintro w5 ⟨hn5, ht5⟩
      have H5 := Lib.hid (newer_trans HW.out hn5)
      have t0 := ht5.at 0 (v := vi t.spot) rfl
      have t1 := ht5.at 1 (v := vi t.a) rfl
      have t2 := ht5.at 2 (v := vi t.b) rfl
      have t3 := ht5.at 3 (v := vi t.turn) rfl
      have t4 := ht5.at 4 (v := vi t.err) rfl
      have t5 := ht5.at 5 (v := vi t.drift) rfl
      have t6 := ht5.at 6 (v := vi t.since) rfl
      have hx5 := HE4.out.2.below H5.out HE4.out.2.lt
      have x0 := hx5.at 0 (v := .slice y.sa y.s.spots.length y.sc) rfl
      have x1 := hx5.at 1 (v := vi y.s.strain) rfl
      have x2 := hx5.at 2 (v := .slice y.ta y.s.tools.length y.tc) rfl
      have x3 := hx5.at 3 (v := vi y.s.day) rfl
      have x4 := hx5.at 4 (v := .slice y.ra y.s.reads.length y.rc) rfl
      clear hx5
      have HWC := Lib.hid (HWO.out k t w5 HTT.out H5.out)
      have hbs := bestK_succ (s := y.s) HTT.out
      obtain ⟨wk, hwk⟩ : ∃ q, q = worstS y.s t := ⟨_, rfl⟩
      rw [← hwk] at HWC hbs
      rw [← HB.out.2] at hbs
      have HBS := Lib.hid hbs
      clear hn5 ht5 hbs hwk
      go_wp2_with fail
      refine (HWC.out).mono ?_
      rintro e w6 ⟨rfl, hb⟩
      have H6 := Lib.hid (newer_trans H5.out hb)
      clear hb HWC t0 t1 t2 t3 t4 t5 t6 x0 x1 x2 x3 x4
      by_cases h0 : k = 0
      · have hk0 : (k : Int) = 0 := by omega
        have hk0b : ((k : Int) == 0) = true := by simp [hk0]
        have HQ : Hid (bestK y.s ts (k + 1) = ((k : Int), wk)) := Lib.hid (by rw [HBS.out, if_pos (.inl h0)])
        clear h0
        go_wp2_with fail
        go_roundw
        case rel => exact ⟨k + 1, HLT.out, by rw [HQ.out]; first | rfl | exact congrArg vi hk0.symm | exact congrArg vi hk0, by rw [HQ.out], by go_num, H6.out⟩
        case measure => simp [intOf]; omega
      · have hk0 : ¬ (k : Int) = 0 := by omega
        have hk0b : ((k : Int) == 0) = false := by simpa using h0
        by_cases hlw : wk < b2
        · have HQ : Hid (bestK y.s ts (k + 1) = ((k : Int), wk)) := Lib.hid (by rw [HBS.out, if_pos (.inr hlw)])
          clear h0
          go_wp2_with fail
          go_roundw
          case rel => exact ⟨k + 1, HLT.out, by rw [HQ.out], by rw [HQ.out], by go_num, H6.out⟩
          case measure => simp [intOf]; omega
        · have HQ : Hid (bestK y.s ts (k + 1) = bestK y.s ts k) := Lib.hid (by rw [HBS.out, if_neg (fun h => h.elim h0 hlw)])
          clear h0
          go_wp2_with fail
          go_roundw
          case rel => exact ⟨k + 1, HLT.out, by rw [HQ.out, ← HB.out.1], by rw [HQ.out, ← HB.out.2], by go_num, H6.out⟩
          case measure => simp [intOf]; omega
    · obtain rfl : k = n := by omega
      have hkn : ¬ (k : Int) < k := by omega
      clear hnw
      go_wp2_with fail
      go_ret3
      exact ⟨by rw [← HNN.out, ← HB.out.1, ← HB.out.2]; rfl, newer_trans HE4.out.1 HW.out⟩
/-- The best stake, and its worst, or the error. -/
theorem best_any (y : Sm) (ts : List Tl) (A : Option Addr) (c : Nat) (w : World) (hok : SmOk y w) (few : SmFew y) (hts : Row tlL 7 w w.heap.size A ts) : Calls Try.prog 53 #[smV y, .slice A ts.length c] w fun e w' => e = .returned (.tuple #[vi (bestP y.s ts).1, vi (bestP y.s ts).2, vi (bestE y.s ts)]) ∧ newer w w' := by
  by_cases he : errN y.s = 0
  case neg =>
    have h1 : bestE y.s ts = errN y.s := by unfold bestE stakeE; rw [if_neg he, if_neg he]
    have h2 : bestP y.s ts = (0, 0) := by unfold bestP; rw [h1, if_neg he]
    rw [h1, h2]
    exact best_err y ts A c w hok few he
  cases hn : inB ts.length 1 8 with
  | false =>
    have h0 : stakeE y.s ts = 2 := by unfold stakeE; rw [if_pos he, if_neg (by rw [hn]; decide)]
    have h1 : bestE y.s ts = 2 := by unfold bestE; rw [h0, if_neg (by decide)]
    have h2 : bestP y.s ts = (0, 0) := by unfold bestP; rw [h1, if_neg (by decide)]
    rw [h1, h2]
    exact best_few y ts A c w hok few he hn
  | true =>
    cases hal : ts.all (stkB y.s) with
    | false =>
      have h0 : stakeE y.s ts = 1 := by unfold stakeE; rw [if_pos he, if_pos hn, if_neg (by rw [hal]; decide)]
      have h1 : bestE y.s ts = 1 := by unfold bestE; rw [h0, if_neg (by decide)]
      have h2 : bestP y.s ts = (0, 0) := by unfold bestP; rw [h1, if_neg (by decide)]
      rw [h1, h2]
      exact best_arg y ts A c w hok few hts he hn hal
    | true =>
      have h0 : stakeE y.s ts = 0 := by unfold stakeE; rw [if_pos he, if_pos hn, if_pos hal]
      have h1 : bestE y.s ts = posE (allT y.s) := by unfold bestE; rw [h0, if_pos rfl]
      by_cases hp : posE (allT y.s) = 0
      · have h2 : bestP y.s ts = bestK y.s ts ts.length := by unfold bestP; rw [h1, if_pos hp]
        rw [h1, h2, hp]
        exact best_ok y ts A c w hok few hts he hn hal hp
      · have h2 : bestP y.s ts = (0, 0) := by unfold bestP; rw [h1, if_neg hp]
        rw [h1, h2]
        exact best_pos y ts A c w hok few hts he hn hal hp

end Go.Proofs.Ytpmafnifgegfbaa
