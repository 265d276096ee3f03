/- RadarTurns walked: it returns true, and leaves what was there. -/
import Derived.Test.YtpmafnifgegfbaaBL
import Derived.Test.YtpmafnifgegfbaaBQ
import Derived.Test.YtpmafnifgegfbaaBM
import Derived.Test.YtpmafnifgegfbaaAL2
namespace Go.Proofs.Ytpmafnifgegfbaa
open Go.RowKit Go.Shelf Go.Deep

/-- Lists, each in a block from B on. -/
structure LkIn (B : Nat) (xs : List Ln) (W : World) : Prop where
  ok : ∀ x ∈ xs, Row intL 1 W W.heap.size x.a x.l
  hi : ∀ x ∈ xs, ∀ ad, x.a = some ad → B ≤ ad.block
  lt : ∀ x ∈ xs, ∀ ad, x.a = some ad → ad.block < W.heap.size
/-- Lists behind one another in a row of one's own. -/
structure LkJ (B : Nat) (L : List (List Int)) (xs : List Ln) (A : Option Addr) (c : Nat) (W : World) : Prop where
  own : W.ownsRow B 24 1 (.slice A xs.length c) xs.length (xs.flatMap lnL)
  sin : LkIn B xs W
  far : ∀ x ∈ xs, ∀ ad, x.a = some ad → (Value.slice A xs.length c).ownBlock ≠ some ad.block
  eq : xs.map (·.l) = L
section
variable {B : Nat} {L : List (List Int)} {us : List Ln} {A : Option Addr} {c : Nat} {W W' : World}
theorem LkIn.next (h : LkIn B us W) (hb : newer W W') : LkIn B us W' := ⟨fun x hx => ((h.ok x hx).below hb).more hb.size, h.hi, fun x hx ad had => Nat.lt_of_lt_of_le (h.lt x hx ad had) hb.size⟩
theorem LkIn.low {B' : Nat} (h : LkIn B us W) (hb : B' ≤ B) : LkIn B' us W := ⟨h.ok, fun x hx ad had => Nat.le_trans hb (h.hi x hx ad had), h.lt⟩
theorem LkJ.next (h : LkJ B L us A c W) (hb : newer W W') : LkJ B L us A c W' := ⟨own_below h.own hb, h.sin.next hb, h.far, h.eq⟩
theorem LkJ.none (B : Nat) (W : World) : LkJ B [] [] none 0 W := ⟨⟨rfl, .inl ⟨rfl, rfl⟩⟩, ⟨fun x hx => by simp at hx, fun x hx => by simp at hx, fun x hx => by simp at hx⟩, fun x hx => by simp at hx, rfl⟩
theorem LkJ.app (h : LkJ B L us A c W) {vs : List Ln} (hv : LkIn B vs W) (hf : ∀ x ∈ vs, ∀ ad, x.a = some ad → (Value.slice A us.length c).ownBlock ≠ some ad.block) {A' : Option Addr} {c' : Nat}
    (hown : W'.ownsRow B 24 1 (.slice A' (us.length + vs.length) c') (us.length + vs.length) (us.flatMap lnL ++ vs.flatMap lnL)) (hg : W.grownBy W' (Value.slice A us.length c).ownBlock)
    (hat : ∀ g, (Value.slice A' (us.length + vs.length) c').ownBlock = some g → (Value.slice A us.length c).ownBlock = some g ∨ g = W.heap.size) : LkJ B (L ++ vs.map (·.l)) (us ++ vs) A' c' W' := by
  have hall : ∀ x ∈ us ++ vs, Row intL 1 W W.heap.size x.a x.l ∧ (∀ ad, x.a = some ad → B ≤ ad.block) ∧ (∀ ad, x.a = some ad → ad.block < W.heap.size) ∧ ∀ ad, x.a = some ad → (Value.slice A us.length c).ownBlock ≠ some ad.block := fun x hx => by
    rcases List.mem_append.1 hx with hx | hx
    · exact ⟨h.sin.ok x hx, h.sin.hi x hx, h.sin.lt x hx, h.far x hx⟩
    · exact ⟨hv.ok x hx, hv.hi x hx, hv.lt x hx, hf x hx⟩
  refine ⟨by rw [List.length_append, List.flatMap_append]; exact hown, ⟨fun x hx => row_grownF (hall x hx).1 hg (hall x hx).2.2.2, fun x hx => (hall x hx).2.1, fun x hx ad had => Nat.lt_of_lt_of_le ((hall x hx).2.2.1 ad had) hg.size⟩, fun x hx ad had e => ?_, by rw [List.map_append, h.eq]⟩
  rw [List.length_append] at e
  rcases hat _ e with e | e
  · exact (hall x hx).2.2.2 ad had e
  · have := (hall x hx).2.2.1 ad had
    omega
theorem LkJ.new (h : LkJ B L us A c W) {w : World} (hB : w.heap.size ≤ B) (hn : newer w W) (hg : W.grownBy W' (Value.slice A us.length c).ownBlock) : newer w W' := by
  cases hx : (Value.slice A us.length c).ownBlock with
  | none =>
    rw [hx] at hg
    exact newer_trans hn (below_grown hg (fun q e => by cases e) (Nat.le_refl _))
  | some k =>
    rw [hx] at hg
    exact Below.trans hn (below_of_grown hg (Nat.le_trans hB (own_ge h.own k hx)) hn.size)
/-- Lists returned, in memory. -/
def LksAt (B : Nat) (L : List (List Int)) (v : Value) (W : World) : Prop := ∃ (xs : List Ln) (A : Option Addr) (c : Nat), v = .slice A xs.length c ∧ Row lnL 1 W W.heap.size A xs ∧ LkIn B xs W ∧ xs.map (·.l) = L
theorem LkJ.out {H : Nat} (h : LkJ B L us A c W) (hB : H ≤ B) : LksAt H L (.slice A us.length c) W := ⟨us, A, c, rfl, row_of_own (enc := lnL) (size := 1) (by decide) (fun _ => rfl) h.own, h.sin.low hB, h.eq⟩
end
def vLks (B : Nat) (L : List (List Int)) (v : Value) (W : World) : Prop := ∃ (xs : List Ln) (A : Option Addr) (c : Nat), v = .slice A xs.length c ∧ Row lnL 1 W W.heap.size A xs ∧ LkIn B xs W ∧ xs.map (·.l) = L
theorem vLks_st {B : Nat} {L : List (List Int)} : ∀ v W W', vLks B L v W → newer W W' → vLks B L v W' := fun _ _ _ ⟨xs, A, c, h1, h2, h3, h4⟩ hb => ⟨xs, A, c, h1, (h2.below hb).more hb.size, h3.next hb, h4⟩
theorem lists_few {s : Sd} {f : List Mv} : ∀ (r tool : Nat) (b : List Int), (listsR s f r tool b).length ≤ 3001 ^ r
  | 0, _, b => by simp [listsR]
  | r + 1, tool, b => by
    rw [listsR]
    have h := lists_few (s := s) (f := f) r
    have h1 : 3001 ^ r ≤ 3001 ^ (r + 1) := Nat.pow_le_pow_right (by decide) (Nat.le_succ _)
    split
    · split
      · exact Nat.le_trans (h _ _) h1
      · rename_i t _ hT
        refine Nat.le_trans (flat_le (c := 3001 ^ r) _ fun k _ => h _ _) ?_
        rw [Nat.pow_succ, Nat.mul_comm (3001 ^ r)]
        refine Nat.mul_le_mul_right _ ?_
        unfold waysN
        rw [if_neg hT]
        exact Nat.le_trans (List.length_filter_le _ _) (by unfold kAll; rw [List.length_map, List.length_range]; exact Nat.le_refl _)
    · simp
/-- What lists does. -/
def ListsAt (y : Sm) (f : List Mv) (r : Nat) : Prop := ∀ (b : List Int) (ba : Option Addr) (bc : Nat) (fa : Option Addr) (fc tool : Nat) (w : World), SmOk y w → Row mvL 2 w w.heap.size fa f → Row intL 1 w w.heap.size ba b → tool + r = y.s.tools.length → b.length ≤ tool → Calls Try.prog 70 #[smV y, .slice fa f.length fc, vi tool, .slice ba b.length bc] w fun e w' => (∃ (xs : List Ln) (A : Option Addr) (c : Nat), e = .returned (.slice A xs.length c) ∧ Row lnL 1 w' w'.heap.size A xs ∧ LkIn w.heap.size xs w' ∧ xs.map (·.l) = listsR y.s f r tool b) ∧ newer w w'
set_option maxRecDepth 100000 in
set_option maxHeartbeats 4000000 in
theorem lists_zero (y : Sm) (f : List Mv) (h8 : y.s.tools.length ≤ 8) : ListsAt y f 0 := by
  intro b ba bc fa fc tool w hok hf hb hr hbl
  have HRB := Lib.hid hb
  have HB := Lib.hid (show b.length ≤ 8 by omega)
  obtain ⟨i0, hi0, hz0, hz1, hz2⟩ := info_parts info_int
  have HI := Lib.hid (And.intro hi0 (And.intro hz0 (And.intro hz1 hz2)))
  obtain ⟨nb, hnb⟩ : ∃ q, q = b.length := ⟨_, rfl⟩
  rw [← hnb]
  have HNB := Lib.hid hnb
  have e1 : ((tool : Int) == (y.s.tools.length : Int)) = true := by simp; omega
  have e2 : (tool == y.s.tools.length) = true := by simp; omega
  clear hi0 hz0 hz1 hz2 hnb hok hf hb hr hbl h8
  go_enter Try.func70, Try.ntmps70
  go_upto_region 1 with fail
  refine genQ (fun X => newer w X ∧ Whole X w.heap.size 26 (smC y)) ⟨newer_allocH _ _, Whole.made _ _ _⟩ ?_
  rintro w2 ⟨hn2, hx2⟩
  have x2 := hx2.at 2 (v := .slice y.ta y.s.tools.length y.tc) rfl
  have H2 := Lib.hid hn2
  have hna := newer_allocH w2 (.cells #[] 3)
  have HRA : Hid (Row intL 1 (w2.alloc (.cells #[] 3)) (w2.alloc (.cells #[] 3)).heap.size ba b) := Lib.hid (by have h := newer_trans H2.out hna; exact (HRB.out.below h).more h.size)
  have HS2 : Hid (w.heap.size ≤ w2.heap.size ∧ w.heap.size ≤ (w2.alloc (.cells #[] 3)).heap.size) := Lib.hid (by have h := H2.out.size; exact ⟨h, Nat.le_trans h hna.size⟩)
  have HN2 := Lib.hid (newer_trans H2.out hna)
  clear hna hn2 hx2
  go_wp2_with (at_builtin; go_loud ((refine wpList_plain rfl fun _ hK => wp_append_owncopy (enc := intL) (size := 1) w.heap.size (.tmp 17) (.tmp 18) 24 3 i0 (.int .i64 0) 8 Try.underlying24 HI.out.1 HI.out.2.1 HI.out.2.2.1 HI.out.2.2.2 rfl (by omega) (by omega) (fun _ => rfl) rfl w2.heap.size rfl HS2.out.1 (Whole.made _ _ _) b ba bc (by rw [← HNB.out]; rfl) (by have := HB.out; omega) HRA.out HS2.out.2 fun B c w7 hown hb hlt => hK _ _ ?_); rw [← HNB.out]; have HO7 := Lib.hid hown; have HB7 := Lib.hid (newer_trans HN2.out hb); have HV7 : Hid (Whole (w7.alloc (.cells #[.slice B nb c] 24)) w7.heap.size 24 #[.slice B nb c]) := Lib.hid (Whole.made _ _ _); have HN7 := Lib.hid (newer_allocH w7 (.cells #[.slice B nb c] 24)); clear hown hb hlt))
  go_ret
  refine ⟨⟨[⟨b, B, c⟩], some ⟨w7.heap.size, 0, none⟩, 1, rfl, row_of_whole (enc := lnL) (s := 1) (fun _ => rfl) HV7.out (by rw [HNB.out]; rfl), ⟨fun x hx => ?_, fun x hx ad had => ?_, fun x hx ad had => ?_⟩, rfl⟩, newer_trans HB7.out HN7.out⟩
  all_goals obtain rfl := List.mem_singleton.1 hx
  · have h := row_of_own (enc := intL) (size := 1) (by decide) (fun _ => rfl) HO7.out
    exact (h.below HN7.out).more HN7.out.size
  · obtain ⟨g, h1, h2⟩ := own_some' HO7.out had
    omega
  · obtain ⟨g, h1, h2, h3⟩ := own_some' HO7.out had
    have := HN7.out.size
    omega

end Go.Proofs.Ytpmafnifgegfbaa

namespace Go.Proofs.Ytpmafnifgegfbaa
open Go.RowKit Go.Shelf Go.Deep

theorem intL_oneN (n : Int) : ∀ u ∈ intL n, u.oneCell' = true := by
  intro u hu
  obtain rfl := List.mem_singleton.1 hu
  rfl
theorem ways_len (s : Sd) (j : Nat) (t : Tl) (m : Mv) : (waysN s j t m).length ≤ 3001 := by
  unfold waysN
  split
  · split <;> simp
  · exact Nat.le_trans (List.length_filter_le _ _) (by unfold kAll; rw [List.length_map, List.length_range]; exact Nat.le_refl _)
theorem rowi_snoc {W : World} {H : Nat} {B : Option Addr} {c : Nat} {bb : List Int} {m : Int} (h : W.ownsRow H 3 1 (.slice B (bb.length + 1) c) (bb.length + 1) (bb.flatMap intL ++ [m].flatMap intL)) : Row intL 1 W W.heap.size B (bb ++ [m]) := by
  rw [← List.flatMap_append] at h
  exact row_of_own (enc := intL) (size := 1) (by decide) (fun _ => rfl) h
set_option maxRecDepth 100000 in
set_option maxHeartbeats 8000000 in
theorem lists_step (y : Sm) (f : List Mv) (hs : SdOk y.s) (h3 : y.s.tools.length ≤ 3) (hfl : f.length = y.s.spots.length) (hbd : ∀ m ∈ f, (-30 ≤ m.1 ∧ m.1 ≤ 30) ∧ -30 ≤ m.2 ∧ m.2 ≤ 30) (q : Nat) (ih : ListsAt y f q) : ListsAt y f (q + 1) := by
  intro b0 ba bc fa fc tool w hok hf hb hr hbl
  obtain ⟨t, ht⟩ : ∃ t, y.s.tools[tool]? = some t := ⟨_, List.getElem?_eq_getElem (by omega)⟩
  have hto := hs.tool t (List.mem_of_getElem? ht)
  obtain ⟨sp, hsp⟩ : ∃ sp : Nat, t.spot = (sp : Int) := ⟨t.spot.toNat, by have := hto.spot; omega⟩
  have hsf : (sp : Int) < f.length := by have := hto.spot; omega
  obtain ⟨m, hm⟩ : ∃ m, f[sp]? = some m := ⟨_, List.getElem?_eq_getElem (by omega)⟩
  obtain ⟨fb, fo, rfl, -, m0, m1⟩ := row2 hf hm
  obtain ⟨tb, tof, et, -, t0, t1, t2, t3, t4, t5, t6⟩ := row7 hok.tl ht
  rw [hsp] at t0
  have hmb := hbd m (List.mem_of_getElem? hm)
  obtain ⟨L, hL⟩ : ∃ L, L = waysN y.s tool t m := ⟨_, rfl⟩
  have HWY0 := Lib.hid (fun W (hW : newer w W) => ways_any y tool t m W (hok.next hW) hs ht hmb.1 hmb.2)
  rw [← hL] at HWY0
  obtain ⟨tj, hj⟩ : ∃ j, j = tool + 1 := ⟨_, rfl⟩
  have ej : (tool : Int) + 1 = (tj : Int) := by omega
  have ewj : IntKind.i64.wrap (tj : Int) = (tj : Int) := IntWalk.i64_in _ (by omega)
  have HRF : Hid (∀ W, newer w W → Row mvL 2 W W.heap.size (some ⟨fb, fo, none⟩) f) := Lib.hid (fun W hW => (hf.below hW).more hW.size)
  have HRB : Hid (∀ W, newer w W → Row intL 1 W W.heap.size ba b0) := Lib.hid (fun W hW => (hb.below hW).more hW.size)
  have HIH0 : Hid (∀ W, newer w W → Calls Try.prog 70 #[smV y, .slice (some ⟨fb, fo, none⟩) f.length fc, vi tj, .slice ba b0.length bc] W fun e w' => (∃ (xs : List Ln) (A : Option Addr) (c : Nat), e = .returned (.slice A xs.length c) ∧ Row lnL 1 w' w'.heap.size A xs ∧ LkIn W.heap.size xs w' ∧ xs.map (·.l) = listsR y.s f q tj b0) ∧ newer W w') := Lib.hid (fun W hW => ih b0 ba bc _ fc tj W (hok.next hW) (HRF.out W hW) (HRB.out W hW) (by omega) (by omega))
  have HIH : Hid (∀ (k : Int) (B : Option Addr) (c : Nat) (W : World), newer w W → Row intL 1 W W.heap.size B (b0 ++ [k]) → Calls Try.prog 70 #[smV y, .slice (some ⟨fb, fo, none⟩) f.length fc, vi tj, .slice B (b0.length + 1) c] W fun e w' => (∃ (xs : List Ln) (A : Option Addr) (c : Nat), e = .returned (.slice A xs.length c) ∧ Row lnL 1 w' w'.heap.size A xs ∧ LkIn W.heap.size xs w' ∧ xs.map (·.l) = listsR y.s f q tj (b0 ++ [k])) ∧ newer W w') := Lib.hid (fun k B c W hW hR => by
    have h := ih (b0 ++ [k]) B c _ fc tj W (hok.next hW) (HRF.out W hW) hR (by omega) (by rw [List.length_append, List.length_singleton]; omega)
    rw [List.length_append, List.length_singleton] at h
    exact h)
  have HL0 : Hid (t.turn = 0 → listsR y.s f (q + 1) tool b0 = listsR y.s f q tj b0) := Lib.hid (fun e => by rw [listsR, ht, hj]; exact if_pos e)
  have HLF : Hid (t.turn ≠ 0 → listsR y.s f (q + 1) tool b0 = L.flatMap fun k => listsR y.s f q tj (b0 ++ [k])) := Lib.hid (fun e => by
    rw [listsR, ht, hj, hL]
    show (if t.turn = 0 then _ else _) = _
    rw [if_neg e, hsp, Int.toNat_natCast, fnL_at hm])
  have HTA := Lib.hid et
  have HM0 := Lib.hid (And.intro t0 (And.intro t3 (And.intro m0 m1)))
  have HBL := Lib.hid (show b0.length ≤ 8 by omega)
  have HLL : Hid (L.length ≤ 3001) := Lib.hid (by rw [hL]; exact ways_len _ _ _ _)
  have HQ2 := Lib.hid (show q ≤ 2 by omega)
  obtain ⟨i0, hi0, hz0, hz1, hz2⟩ := info_parts info_int
  have HI := Lib.hid (And.intro hi0 (And.intro hz0 (And.intro hz1 hz2)))
  clear hi0 hz0 hz1 hz2
  obtain ⟨i1, hi0, hz0, hz1, hz2⟩ := info_parts info_intsN
  have HI1 := Lib.hid (And.intro hi0 (And.intro hz0 (And.intro hz1 hz2)))
  clear hi0 hz0 hz1 hz2
  have htl : (tool : Int) < y.s.tools.length := by omega
  have e1 : ((tool : Int) == (y.s.tools.length : Int)) = false := by simp; omega
  have e2 : (tool == y.s.tools.length) = false := by simp; omega
  clear hbd hok hf hb hr hbl ht hto hm et hmb hL hj t1 t2 t4 t5 t6 ih hs h3 hfl
  go_enter Try.func70, Try.ntmps70
  go_upto_region 1 with fail
  refine genQ (fun X => newer w X ∧ Whole X w.heap.size 26 (smC y)) ⟨newer_allocH _ _, Whole.made _ _ _⟩ ?_
  rintro w1 ⟨hn1, hx1⟩
  have H1 := Lib.hid (And.intro hn1 hx1)
  have x2 := hx1.at 2 (v := .slice y.ta y.s.tools.length y.tc) rfl
  rw [HTA.out] at x2
  have t0 := keep_cell t0 hn1
  have t3 := keep_cell t3 hn1
  have m0 := keep_cell m0 hn1
  have m1 := keep_cell m1 hn1
  clear hn1 hx1
  by_cases hT : t.turn = 0
  · have HT := Lib.hid (HL0.out hT)
    go_upto_region 4 with fail
    clear x2 t0 t3 m0 m1
    have x0 := H1.out.2.at 0 (v := .slice y.sa y.s.spots.length y.sc) rfl
    have x1 := H1.out.2.at 1 (v := vi y.s.strain) rfl
    have x2 := H1.out.2.at 2 (v := .slice y.ta y.s.tools.length y.tc) rfl
    have x3 := H1.out.2.at 3 (v := vi y.s.day) rfl
    have x4 := H1.out.2.at 4 (v := .slice y.ra y.s.reads.length y.rc) rfl
    go_wp2_with fail
    refine (HIH0.out w1 H1.out.1).mono ?_
    rintro e w2 ⟨⟨xs, A, c, rfl, h1, h2, h4⟩, hb⟩
    have HE := Lib.hid (And.intro h1 (And.intro (h2.low H1.out.1.size) (And.intro (h4.trans HT.out.symm) (newer_trans H1.out.1 hb))))
    clear h1 h2 h4 hb
    go_wp2_with fail
    go_ret
    refine ⟨?_, HE.out.2.2.2⟩
    first | exact ⟨xs, A, c, rfl, HE.out.1, HE.out.2.1, HE.out.2.2.1⟩ | exact ⟨xs, A, ⟨c, rfl⟩, HE.out.1, HE.out.2.1, HE.out.2.2.1⟩
  · have HT := Lib.hid (HLF.out hT)
    have hTb : (t.turn == 0) = false := by simpa using hT
    clear hT
    go_upto_region 6 with fail
    clear hTb
    clear x2 t3
    have x0 := H1.out.2.at 0 (v := .slice y.sa y.s.spots.length y.sc) rfl
    have x1 := H1.out.2.at 1 (v := vi y.s.strain) rfl
    have x2 := H1.out.2.at 2 (v := .slice y.ta y.s.tools.length y.tc) rfl
    have x3 := H1.out.2.at 3 (v := vi y.s.day) rfl
    have x4 := H1.out.2.at 4 (v := .slice y.ra y.s.reads.length y.rc) rfl
    have HWY : Hid (∀ W, newer w1 W → Calls Try.prog 78 #[smV y, vi tool, mvV m] W fun e w' => ∃ B d, e = .returned (.slice B L.length d) ∧ w'.ownsRow W.heap.size 3 1 (.slice B L.length d) L.length (L.map vi) ∧ newer W w') := Lib.hid (fun W hW => HWY0.out W (newer_trans H1.out.1 hW))
    refine wp_words (by kernel_rfl) (region_told 12 (by kernel_rfl) (by kernel_rfl) (fun W => Below w1.heap.size w1 W) newer (pickD [vIs (smV y), vIs (.int .i64 tool), vIs (.slice (some ⟨fb, fo, none⟩) f.length fc), vIs (.pointer (some ⟨w.heap.size, 2, none⟩)), vIs (.slice y.ta y.s.tools.length y.tc), vIs (.int .i64 tool), vIs (.pointer (some ⟨tb, tof + tool * 7, none⟩)), vIs (.pointer (some ⟨tb, tof + tool * 7, none⟩)), vIs (.int .i64 sp), vIs (.pointer (some ⟨fb, fo + sp * 2, none⟩)), vIs (mvV m), vOwnV w1.heap.size 3 1 L.length (L.map vi)]) (fun h k => newer_trans h k) (pickD_stable _ ⟨vIs_st, vIs_st, vIs_st, vIs_st, vIs_st, vIs_st, vIs_st, vIs_st, vIs_st, vIs_st, vIs_st, vOwnV_st, trivial⟩) (Below.refl _ w1).drew (Below.refl _ _) ?_ ?_)
    · refine ⟨?_, ?_, ?_, ?_, ?_, ?_, ?_, ?_, ?_, ?_, ?_, ?_, trivial⟩
      · intro a W hG hR hO hp
        have h4 := hO.slot 4 (by kernel_rfl)
        have c0 := keep_cell x0 hG
        have c1 := keep_cell x1 hG
        have c2 := keep_cell x2 hG
        have c3 := keep_cell x3 hG
        have c4 := keep_cell x4 hG
        refine kY (v := smV y) hG rfl ?_
        simp [slotOf] at h4
        simp [execOp, go_sem, h4, c0, c1, c2, c3, c4]
      · exact fun a W hG _ hO _ => kM 2 rfl (hO.slot 2 (by kernel_rfl)) rfl hG
      · exact fun a W hG _ hO _ => kM 1 rfl (hO.slot 1 (by kernel_rfl)) rfl hG
      · intro a W hG hR hO hp
        have h4 := hO.slot 4 (by kernel_rfl)
        refine kY (v := .pointer (some ⟨w.heap.size, 2, none⟩)) hG rfl ?_
        simp [slotOf] at h4
        simp [execOp, go_sem, h4]
      · intro a W hG hR hO hp
        have h37 : slotOf a 37 = .pointer (some ⟨w.heap.size, 2, none⟩) := hp.1
        have c0 := keep_cell x2 hG
        refine kY (v := .slice y.ta y.s.tools.length y.tc) hG rfl ?_
        simp [slotOf] at h37
        simp [execOp, go_sem, h37, c0]
      · exact fun a W hG _ hO _ => kM 2 rfl (hO.slot 2 (by kernel_rfl)) rfl hG
      · intro a W hG hR hO hp
        have h38 : slotOf a 38 = .slice y.ta y.s.tools.length y.tc := hp.1
        have h39 : slotOf a 39 = .int .i64 tool := hp.2.1
        refine kY (v := .pointer (some ⟨tb, tof + tool * 7, none⟩)) hG rfl ?_
        simp [slotOf] at h38 h39
        simp [execOp, go_sem, h38, h39, HTA.out, htl]
      · intro a W hG hR hO hp
        have h40 : slotOf a 40 = .pointer (some ⟨tb, tof + tool * 7, none⟩) := hp.1
        refine kY (v := .pointer (some ⟨tb, tof + tool * 7, none⟩)) hG rfl ?_
        simp [slotOf] at h40
        simp [execOp, go_sem, h40]
      · intro a W hG hR hO hp
        have h41 : slotOf a 41 = .pointer (some ⟨tb, tof + tool * 7, none⟩) := hp.1
        have c0 := keep_cell t0 hG
        refine kY (v := .int .i64 sp) hG rfl ?_
        simp [slotOf] at h41
        simp [execOp, go_sem, h41, c0]
      · intro a W hG hR hO hp
        have h36 : slotOf a 36 = .slice (some ⟨fb, fo, none⟩) f.length fc := hp.1
        have h42 : slotOf a 42 = .int .i64 sp := hp.2.1
        refine kY (v := .pointer (some ⟨fb, fo + sp * 2, none⟩)) hG rfl ?_
        simp [slotOf] at h36 h42
        simp [execOp, go_sem, h36, h42, hsf]
      · intro a W hG hR hO hp
        have h43 : slotOf a 43 = .pointer (some ⟨fb, fo + sp * 2, none⟩) := hp.1
        have c0 := keep_cell m0 hG
        have c1 := keep_cell m1 hG
        refine kY (v := mvV m) hG rfl ?_
        simp [slotOf] at h43
        simp [execOp, go_sem, h43, c0, c1]
      · intro a W hG hR hO hp
        have h34 : slotOf a 34 = smV y := hp.1
        have h35 : slotOf a 35 = .int .i64 tool := hp.2.1
        have h44 : slotOf a 44 = mvV m := hp.2.2.1
        refine wp_enters (f := 78) (args := #[smV y, vi tool, mvV m]) ?_ ((HWY.out W hG).mono ?_)
        · simp [slotOf] at h34 h35 h44
          simp [go_sem, h34, h35, h44]
        · rintro e w' ⟨B, d, rfl, h1, h2⟩
          exact ⟨_, rfl, _, rfl, ⟨B, d, rfl, own_more h1 hG.size⟩, h2, below_next hG h2⟩
    · intro w2 hG hR
      rintro _ rfl _ rfl _ rfl _ rfl _ rfl _ rfl _ rfl _ rfl _ rfl _ rfl _ rfl _ ⟨WA, wd, rfl, hto⟩
      change wpList _ _ _ _ _ _
      simp only [Act.put, List.setIfInBounds_toArray, List.set_cons_zero, List.set_cons_succ, List.drop_succ_cons, List.drop_zero]
      have HW2 := Lib.hid (And.intro hto (And.intro (newer_trans H1.out.1 hG) (And.intro (H1.out.2.below hG H1.out.2.lt) (show w.heap.size < w2.heap.size from Nat.lt_of_lt_of_le H1.out.2.lt hG.size))))
      clear hto hG x0 x1 x2 x3 x4 t0 m0 m1 HWY HWY0 HIH0 HM0
      obtain ⟨g, hg⟩ : ∃ g : Int → List (List Int), g = fun k => listsR y.s f q tj (b0 ++ [k]) := ⟨_, rfl⟩
      have HGE : Hid (∀ k, g k = listsR y.s f q tj (b0 ++ [k])) := Lib.hid (fun k => by rw [hg])
      have HTG : Hid (listsR y.s f (q + 1) tool b0 = L.flatMap g) := Lib.hid (by rw [hg]; exact HT.out)
      have HGL : Hid (∀ k, (g k).length ≤ 9006001) := Lib.hid (fun k => by rw [HGE.out]; exact Nat.le_trans (lists_few q tj _) (Nat.le_trans (Nat.pow_le_pow_right (by decide) HQ2.out) (by decide)))
      have HLB : Hid (∀ i, ((L.take i).flatMap g).length ≤ 27027009001) := Lib.hid (fun i => Nat.le_trans (flat_le (c := 9006001) (L.take i) (fun k _ => HGL.out k)) (Nat.le_trans (Nat.mul_le_mul_right _ (show (L.take i).length ≤ 3001 by rw [List.length_take]; have := HLL.out; omega)) (by decide)))
      clear hg HT
      have hl3 := HLL.out
      by_cases hL0 : L.length = 0
      · have HLE : Hid (L = []) := Lib.hid (List.eq_nil_of_length_eq_zero hL0)
        have hil : ¬ (0 : Int) < (L.length : Int) := by omega
        clear hL0 hl3
        go_wp2_with fail
        try go_frame
        go_loopw [9, 11] (fun s9 s11 wr => s9 = .slice none 0 0 ∧ s11 = vi 0 ∧ newer w2 wr) (fun _ _ _ => 0)
        case atStart => exact ⟨rfl, rfl, newer_refl _⟩
        case round =>
          obtain ⟨rfl, rfl, hn2⟩ := hrel
          have HZ := Lib.hid (newer_trans HW2.out.2.1 hn2)
          have HE : Hid (listsR y.s f (q + 1) tool b0 = []) := Lib.hid (by rw [HTG.out, HLE.out]; rfl)
          clear hn2
          go_wp2_with fail
          go_ret
          refine ⟨?_, HZ.out⟩
          have hr : Row lnL 1 wr wr.heap.size none ([] : List Ln) := fun h => absurd rfl h
          have hk : LkIn w.heap.size [] wr := ⟨fun x hx => by simp at hx, fun x hx => by simp at hx, fun x hx => by simp at hx⟩
          first | exact ⟨[], none, 0, rfl, hr, hk, HE.out.symm⟩ | exact ⟨[], none, ⟨0, rfl⟩, hr, hk, HE.out.symm⟩
      · obtain ⟨wg, rfl, -⟩ := own_some HW2.out.1 (by omega)
        have HRL : Hid (∀ (i : Nat) (k : Int), L[i]? = some k → w2.cell? ⟨wg, i, none⟩ = some (vi k)) := Lib.hid (fun i k hk => by
          have h := HW2.out.1
          rw [← map_vi] at h
          have h := row_of_own (enc := intL) (size := 1) (by decide) (fun _ => rfl) h
          obtain ⟨b4, o4, e4, -, h1⟩ := row1 h hk
          injection e4 with e4
          injection e4 with e5 e6
          subst e5 e6
          simpa using h1)
        go_wp2_with fail
        try go_frame
        go_loopw [9, 11] (fun s9 s11 wr => ∃ (i : Nat) (us : List Ln) (A : Option Addr) (c : Nat), i ≤ L.length ∧ s9 = .slice A us.length c ∧ s11 = vi i ∧ LkJ w2.heap.size ((L.take i).flatMap g) us A c wr ∧ newer w2 wr) (fun _ s11 _ => L.length - (intOf s11).toNat)
        case atStart => exact ⟨0, [], none, 0, Nat.zero_le _, rfl, rfl, LkJ.none _ _, newer_refl _⟩
        case round =>
          obtain ⟨i, us, A, c, hi, rfl, rfl, hj, hn2⟩ := hrel
          have hnw := newer_trans HW2.out.2.1 hn2
          have hx := HW2.out.2.2.1.below hn2 HW2.out.2.2.1.lt
          have HJ := Lib.hid (And.intro hj (And.intro hn2 (And.intro hnw hx)))
          by_cases hlt : i < L.length
          · have hil : (i : Int) < L.length := by omega
            obtain ⟨kv, hk⟩ : ∃ k, L[i]? = some k := ⟨_, List.getElem?_eq_getElem hlt⟩
            have k0 := keep_cell (HRL.out i kv hk) hn2
            have HKV := Lib.hid hk
            have x0 := hx.at 0 (v := .slice y.sa y.s.spots.length y.sc) rfl
            have x1 := hx.at 1 (v := vi y.s.strain) rfl
            have x2 := hx.at 2 (v := .slice y.ta y.s.tools.length y.tc) rfl
            have x3 := hx.at 3 (v := vi y.s.day) rfl
            have x4 := hx.at 4 (v := .slice y.ra y.s.reads.length y.rc) rfl
            clear hj hn2 hnw hx hk
            go_wp2_with fail
            go_upto_region 10 with fail
            refine wp_words (by kernel_rfl) (region_turn 15 13 (by kernel_rfl) (by kernel_rfl) (by decide) (fun _ W => Below wr.heap.size wr W) (pickB [vIs (.slice A us.length c), vIs (smV y), vIs (.slice (some ⟨fb, fo, none⟩) f.length fc), vIs (.int .i64 tool), vIs (.int .i64 tj), vEmpT wr.heap.size 3, vIs (.slice ba b0.length bc), vOwn wr.heap.size 3 1 intL b0, vIs (.slice (some ⟨wg, 0, none⟩) L.length wd), vIs (.int .i64 i), vIs (.pointer (some ⟨wg, i, none⟩)), vIs (.int .i64 kv), vOne wr.heap.size 3 #[vi kv], (fun _ _ => False), (fun _ _ => False)] [vIs (.slice A us.length c), vIs (smV y), vIs (.slice (some ⟨fb, fo, none⟩) f.length fc), vIs (.int .i64 tool), vIs (.int .i64 tj), (fun _ _ => True), vIs (.slice ba b0.length bc), (fun _ _ => True), vIs (.slice (some ⟨wg, 0, none⟩) L.length wd), vIs (.int .i64 i), vIs (.pointer (some ⟨wg, i, none⟩)), vIs (.int .i64 kv), (fun _ _ => True), vOwnV wr.heap.size 3 1 (b0.length + 1) (b0.flatMap intL ++ [kv].flatMap intL), vLks wr.heap.size (listsR y.s f q tj (b0 ++ [kv]))]) (pickB_stable ⟨vIs_st, vIs_st, vIs_st, vIs_st, vIs_st, vEmpT_st, vIs_st, vOwn_st, vIs_st, vIs_st, vIs_st, vIs_st, vOne_st, (fun _ _ _ h _ => h), (fun _ _ _ h _ => h), trivial⟩ ⟨vIs_st, vIs_st, vIs_st, vIs_st, vIs_st, (fun _ _ _ h _ => h), vIs_st, (fun _ _ _ h _ => h), vIs_st, vIs_st, vIs_st, vIs_st, (fun _ _ _ h _ => h), vOwnV_st, vLks_st, trivial⟩) (Below.refl _ wr).drew ?_ ?_)
            · refine ⟨?_, ?_, ?_, ?_, ?_, ?_, ?_, ?_, ?_, ?_, ?_, ?_, ?_, ?_, ?_, trivial⟩
              · intro b a W hG hO hp
                have h9 := hO.slot 9 (by kernel_rfl)
                refine wp_yields (v := .slice A us.length c) ?_ ⟨_, rfl, (by cases b <;> rfl), Below.refl _ _, hG⟩
                simp [slotOf] at h9
                simp [execOp, go_sem, h9]
              · intro b a W hG hO hp
                have h4 := hO.slot 4 (by kernel_rfl)
                have c0 := keep_cell x0 hG
                have c1 := keep_cell x1 hG
                have c2 := keep_cell x2 hG
                have c3 := keep_cell x3 hG
                have c4 := keep_cell x4 hG
                refine wp_yields (v := smV y) ?_ ⟨_, rfl, (by cases b <;> rfl), Below.refl _ _, hG⟩
                simp [slotOf] at h4
                simp [execOp, go_sem, h4, c0, c1, c2, c3, c4]
              · intro b a W hG hO hp
                have h1 := hO.slot 1 (by kernel_rfl)
                refine wp_yields (v := .slice (some ⟨fb, fo, none⟩) f.length fc) ?_ ⟨_, rfl, (by cases b <;> rfl), Below.refl _ _, hG⟩
                simp [slotOf] at h1
                simp [execOp, go_sem, h1]
              · intro b a W hG hO hp
                have h2 := hO.slot 2 (by kernel_rfl)
                refine wp_yields (v := .int .i64 tool) ?_ ⟨_, rfl, (by cases b <;> rfl), Below.refl _ _, hG⟩
                simp [slotOf] at h2
                simp [execOp, go_sem, h2]
              · intro b a W hG hO hp
                have h55 : slotOf a 55 = .int .i64 tool := by cases b <;> exact hp.1
                refine wp_yields (v := .int .i64 tj) ?_ ⟨_, rfl, (by cases b <;> rfl), Below.refl _ _, hG⟩
                simp [slotOf] at h55
                simp [execOp, go_sem, h55, ej, ewj]
              · intro b a W hG hO hp
                refine wp_makes (v := .slice (some ⟨W.heap.size, 0, none⟩) 0 0) (W' := W.alloc (.cells #[] 3)) ?_ ⟨_, rfl, (by cases b with | false => exact ⟨_, rfl, hG.size, Whole.made _ _ _⟩ | true => trivial), newer_allocH _ _, below_next hG (newer_allocH _ _)⟩
                skip
                simp [execOp, go_sem]
              · intro b a W hG hO hp
                have h3 := hO.slot 3 (by kernel_rfl)
                refine wp_yields (v := .slice ba b0.length bc) ?_ ⟨_, rfl, (by cases b <;> rfl), Below.refl _ _, hG⟩
                simp [slotOf] at h3
                simp [execOp, go_sem, h3]
              · intro a W hG hO hp
                have h57 := hp.1
                have h58 : slotOf a 58 = .slice ba b0.length bc := hp.2.1
                obtain ⟨nb, h57, hnb, hW⟩ := h57
                obtain ⟨hi0, hz0, hz1, hz2⟩ := HI.out
                refine wp_append_owncopy (enc := intL) (size := 1) wr.heap.size (.tmp 57) (.tmp 58) 24 3 i0 (.int .i64 0) 8 Try.underlying24 hi0 hz0 hz1 hz2 rfl (by omega) (by omega) (fun _ => rfl) rfl nb ((eval_slot a 57).trans h57) hnb hW b0 ba bc ((eval_slot a 58).trans h58) (by have := HBL.out; omega) (HRB.out W (newer_trans HJ.out.2.2.1 hG)) hG.size ?_
                intro B c' w' hown hb hlt
                exact ⟨_, rfl, ⟨B, c', rfl, hown⟩, hb, below_next hG hb⟩
              · intro b a W hG hO hp
                have h10 := hO.slot 10 (by kernel_rfl)
                refine wp_yields (v := .slice (some ⟨wg, 0, none⟩) L.length wd) ?_ ⟨_, rfl, (by cases b <;> rfl), Below.refl _ _, hG⟩
                simp [slotOf] at h10
                simp [execOp, go_sem, h10]
              · intro b a W hG hO hp
                have h11 := hO.slot 11 (by kernel_rfl)
                refine wp_yields (v := .int .i64 i) ?_ ⟨_, rfl, (by cases b <;> rfl), Below.refl _ _, hG⟩
                simp [slotOf] at h11
                simp [execOp, go_sem, h11]
              · intro b a W hG hO hp
                have h60 : slotOf a 60 = .slice (some ⟨wg, 0, none⟩) L.length wd := by cases b <;> exact hp.1
                have h61 : slotOf a 61 = .int .i64 i := by cases b <;> exact hp.2.1
                refine wp_yields (v := .pointer (some ⟨wg, i, none⟩)) ?_ ⟨_, rfl, (by cases b <;> rfl), Below.refl _ _, hG⟩
                simp [slotOf] at h60 h61
                simp [execOp, go_sem, h60, h61, hil]
              · intro b a W hG hO hp
                have h62 : slotOf a 62 = .pointer (some ⟨wg, i, none⟩) := by cases b <;> exact hp.1
                have c0 := keep_cell k0 hG
                refine wp_yields (v := .int .i64 kv) ?_ ⟨_, rfl, (by cases b <;> rfl), Below.refl _ _, hG⟩
                simp [slotOf] at h62
                simp [execOp, go_sem, h62, c0]
              · intro a W hG hO hp
                have h63 : slotOf a 63 = .int .i64 kv := hp.1
                refine wp_makes (v := .slice (some ⟨W.heap.size, 0, none⟩) 1 1) (W' := W.alloc (.cells #[vi kv] 3)) ?_ ⟨_, rfl, ⟨_, rfl, hG.size, Whole.made _ _ _⟩, newer_allocH _ _, below_next hG (newer_allocH _ _)⟩
                simp [slotOf] at h63
                simp [execOp, go_sem, h63]
              · intro a W hG hO hp
                have h59 := hp.1
                have h64 := hp.2.1
                obtain ⟨A, c, h59, ho⟩ := h59
                obtain ⟨nb, h64, hnb, hW⟩ := h64
                obtain ⟨hi0, hz0, hz1, hz2⟩ := HI.out
                refine wp_append_all (enc := intL) (size := 1) (wr.heap.size) (.tmp 59) (.tmp 64) 24 3 i0 (.int .i64 0) 8 Try.underlying24 hi0 hz0 hz1 hz2 rfl (by omega) (fun _ => rfl) intL_oneN rfl A b0.length c (b0.flatMap intL) ((eval_slot a 59).trans h59) ho [kv] (some ⟨nb, 0, none⟩) 1 ((eval_slot a 64).trans h64) (row_of_whole (enc := intL) (s := 1) (fun _ => rfl) hW rfl) (by have := HBL.out; unfold maxLen; simp only [List.length_singleton]; omega) (by have := HBL.out; simp only [List.length_singleton]; omega) hG.size ?_
                intro B c' w2 hown hgr hat
                exact ⟨_, rfl, ⟨B, c', rfl, hown⟩, below_row hG ho hgr (Nat.le_refl _), fun j hj u hD => by
                  match j, hj, hD with
                  | 0, _, hD =>
                    exact hD
                  | 1, _, hD =>
                    exact hD
                  | 2, _, hD =>
                    exact hD
                  | 3, _, hD =>
                    exact hD
                  | 4, _, hD =>
                    exact hD
                  | 5, _, _ => trivial
                  | 6, _, hD =>
                    exact hD
                  | 7, _, _ => trivial
                  | 8, _, hD =>
                    exact hD
                  | 9, _, hD =>
                    exact hD
                  | 10, _, hD =>
                    exact hD
                  | 11, _, hD =>
                    exact hD
                  | 12, _, _ => trivial
                  | 13, hj, _ => exact absurd rfl hj
                  | 14, _, hD =>
                    exact hD.elim
                  | (_ + 15), _, hD => exact hD⟩
              · intro b a W hG hO hp
                cases b with
                | false => exact (hp.2.2.2.1 : False).elim
                | true =>
                  have h53 : slotOf a 53 = smV y := hp.1
                  have h54 : slotOf a 54 = .slice (some ⟨fb, fo, none⟩) f.length fc := hp.2.1
                  have h56 : slotOf a 56 = .int .i64 tj := hp.2.2.1
                  have h65 := hp.2.2.2.1
                  obtain ⟨B, c', h65, ho⟩ := h65
                  refine wp_enters (f := 70) (args := #[smV y, .slice (some ⟨fb, fo, none⟩) f.length fc, vi tj, .slice B (b0.length + 1) c']) ?_ ((HIH.out kv B c' W (newer_trans HJ.out.2.2.1 hG) (rowi_snoc ho)).mono ?_)
                  · simp [slotOf] at h53 h54 h56 h65
                    simp [go_sem, h53, h54, h56, h65]
                  · rintro e w' ⟨⟨vs, A2, c2, rfl, hrv, hvi, hve⟩, hb⟩
                    exact ⟨_, rfl, _, rfl, ⟨vs, A2, c2, rfl, hrv, hvi.low hG.size, hve⟩, hb, below_next hG hb⟩
            · intro w5 hG
              rintro _ rfl _ rfl _ rfl _ rfl _ rfl _ - _ rfl _ - _ rfl _ rfl _ rfl _ rfl _ - _ - _ ⟨vs, A2, c2, rfl, hrv, hvi, hve⟩
              change wpList _ _ _ _ _ _
              simp only [Act.put, List.setIfInBounds_toArray, List.set_cons_zero, List.set_cons_succ, List.drop_succ_cons, List.drop_zero]
              have HR2 := Lib.hid (And.intro hrv (And.intro hvi hve))
              have HJ2 := Lib.hid (And.intro (HJ.out.1.next hG) (And.intro (newer_trans HJ.out.2.1 hG) hG.size))
              have HFB := Lib.hid (show us.length ≤ 27027009001 ∧ vs.length ≤ 9006001 from ⟨by have h1 := congrArg List.length HJ.out.1.eq; rw [List.length_map] at h1; rw [h1]; exact HLB.out _, by have h1 := congrArg List.length hve; rw [List.length_map, ← HGE.out] at h1; rw [h1]; exact HGL.out kv⟩)
              have HFR : Hid (∀ x ∈ vs, ∀ ad, x.a = some ad → (Value.slice A us.length c).ownBlock ≠ some ad.block) := Lib.hid (fun x hx ad had e => by
                have h1 := own_lt HJ.out.1.own _ e
                have h2 := hvi.hi x hx ad had
                omega)
              have HSZ5 := Lib.hid (show w2.heap.size ≤ w5.heap.size from Nat.le_trans HJ.out.2.1.size hG.size)
              clear hrv hvi hve hG x0 x1 x2 x3 x4 k0
              go_wp2_with (at_builtin; go_loud ((refine wpList_plain rfl fun _ hK => wp_append_all (enc := lnL) (size := 1) w2.heap.size (.tmp 52) (.tmp 66) 33 24 i1 (.slice none 0 0) 24 Try.underlying33 HI1.out.1 HI1.out.2.1 HI1.out.2.2.1 HI1.out.2.2.2 rfl (by omega) (fun _ => rfl) lnL_oneN rfl A us.length c (us.flatMap lnL) rfl HJ2.out.1.own vs A2 c2 rfl HR2.out.1 (by have := HFB.out; unfold maxLen; omega) (by have := HFB.out; omega) HSZ5.out fun B c3 w6 hown hgr hat => hK _ _ ?_); have HE := Lib.hid (And.intro (HJ2.out.1.app (HR2.out.2.1.low HJ.out.2.1.size) HFR.out hown hgr hat) (HJ2.out.1.new (w := w2) (Nat.le_refl _) HJ2.out.2.1 hgr)); clear hown hgr hat))
              go_roundw
              case rel =>
                refine ⟨i + 1, us ++ vs, B, c3, hlt, by rw [List.length_append], by go_num, ?_, HE.out.2⟩
                have h1 := HE.out.1
                rw [HR2.out.2.2, ← HGE.out] at h1
                rw [List.take_add_one, HKV.out, List.flatMap_append]
                simpa using h1
              case measure => simp [intOf]; omega
          · obtain rfl : i = L.length := by omega
            have hil : ¬ (L.length : Int) < L.length := by omega
            have HZ := HJ.out.1.out (H := w.heap.size) (Nat.le_of_lt HW2.out.2.2.2)
            rw [List.take_length, ← HTG.out] at HZ
            clear hj hn2 hnw hx
            go_wp2_with fail
            go_ret
            obtain ⟨xs, A', c', h1, h2, h3, h4⟩ := HZ
            refine ⟨?_, HJ.out.2.2.1⟩
            first | exact ⟨xs, A', c', congrArg Ending.returned h1, h2, h3, h4⟩ | exact ⟨xs, A', ⟨c', congrArg Ending.returned h1⟩, h2, h3, h4⟩
theorem listsR_any (y : Sm) (f : List Mv) (hs : SdOk y.s) (h3 : y.s.tools.length ≤ 3) (hfl : f.length = y.s.spots.length) (hbd : ∀ m ∈ f, (-30 ≤ m.1 ∧ m.1 ≤ 30) ∧ -30 ≤ m.2 ∧ m.2 ≤ 30) : ∀ r, ListsAt y f r
  | 0 => lists_zero y f (by omega)
  | r + 1 => lists_step y f hs h3 hfl hbd r (listsR_any y f hs h3 hfl hbd r)

end Go.Proofs.Ytpmafnifgegfbaa

namespace Go.Proofs.Ytpmafnifgegfbaa
open Go.RowKit Go.Shelf Go.Deep

theorem nodup_le : ∀ (l m : List (List Int)), l.Nodup → (∀ x ∈ l, x ∈ m) → l.length ≤ m.length
  | [], _, _, _ => Nat.zero_le _
  | a :: l, m, hn, h => by
    obtain ⟨h1, h2⟩ := List.nodup_cons.1 hn
    have hm := h a (List.mem_cons_self ..)
    have h3 := nodup_le l (m.erase a) h2 (fun x hx => (List.mem_erase_of_ne (fun e => h1 (by rw [← e]; exact hx))).2 (h x (List.mem_cons_of_mem _ hx)))
    rw [List.length_erase_of_mem hm] at h3
    have h4 := List.length_pos_of_mem hm
    rw [List.length_cons]
    omega
/-- All lists of so many numbers that may be turns. -/
def kLists : Nat → List (List Int)
  | 0 => [[]]
  | r + 1 => kAll.flatMap fun k => (kLists r).map fun l => k :: l
theorem kLists_len : ∀ r, (kLists r).length ≤ 3001 ^ r
  | 0 => by simp [kLists]
  | r + 1 => by
    rw [kLists, Nat.pow_succ, Nat.mul_comm]
    refine Nat.le_trans (flat_le (c := 3001 ^ r) _ fun k _ => by rw [List.length_map]; exact kLists_len r) (Nat.mul_le_mul_right _ (by unfold kAll; rw [List.length_map, List.length_range]; exact Nat.le_refl _))
theorem mem_kLists : ∀ {l : List Int}, (∀ k ∈ l, k ∈ kAll) → l ∈ kLists l.length
  | [], _ => by simp [kLists]
  | k :: l, h => by
    rw [List.length_cons, kLists, List.mem_flatMap]
    exact ⟨k, h k (List.mem_cons_self ..), List.mem_map.2 ⟨l, mem_kLists (fun q hq => h q (List.mem_cons_of_mem _ hq)), rfl⟩⟩
/-- What stands of the lists put so far. -/
structure PutsOk (n : Nat) (l : List (List Int)) : Prop where
  len : ∀ a ∈ l, a.length = n
  all : ∀ a ∈ l, ∀ k ∈ a, k ∈ kAll
  srt : l.Pairwise lessL
theorem PutsOk.few {n : Nat} {l : List (List Int)} (h : PutsOk n l) (hn : n ≤ 3) : l.length ≤ 27027009001 := by
  have h1 := nodup_le l (kLists n) (List.nodup_iff_pairwise_ne.2 (h.srt.imp fun {a b} hab e => by rw [e] at hab; exact less_irrefl _ hab)) (fun x hx => by
    have h2 := mem_kLists (h.all x hx)
    rw [h.len x hx] at h2
    exact h2)
  exact Nat.le_trans h1 (Nat.le_trans (kLists_len n) (Nat.le_trans (Nat.pow_le_pow_right (by decide) hn) (by decide)))
theorem PutsOk.put {n : Nat} {l : List (List Int)} {x : List Int} (h : PutsOk n l) (hx : x.length = n) (hk : ∀ k ∈ x, k ∈ kAll) : PutsOk n (putL l x) := by
  have hm := put_mem h.len hx
  refine ⟨fun a ha => ?_, fun a ha => ?_, put_sorted h.len hx h.srt⟩
  · rcases (hm a).1 ha with rfl | ha
    · exact hx
    · exact h.len a ha
  · rcases (hm a).1 ha with rfl | ha
    · exact hk
    · exact h.all a ha
theorem lists_kAll {s : Sd} {f : List Mv} : ∀ (r tool : Nat) (b : List Int), (∀ k ∈ b, k ∈ kAll) → ∀ y ∈ listsR s f r tool b, ∀ k ∈ y, k ∈ kAll
  | 0, _, b, hb, y, hy => by
    rw [listsR] at hy
    obtain rfl := List.mem_singleton.1 hy
    exact hb
  | r + 1, tool, b, hb, y, hy => by
    rw [listsR] at hy
    split at hy
    · split at hy
      · exact lists_kAll r _ b hb y hy
      · rename_i t _ hT
        obtain ⟨k, hk, hy⟩ := List.mem_flatMap.1 hy
        unfold waysN at hk
        rw [if_neg hT] at hk
        refine lists_kAll r _ (b ++ [k]) (fun q hq => ?_) y hy
        rcases List.mem_append.1 hq with hq | hq
        · exact hb q hq
        · obtain rfl := List.mem_singleton.1 hq
          exact (List.mem_filter.1 hk).1
    · cases hy

end Go.Proofs.Ytpmafnifgegfbaa

namespace Go.Proofs.Ytpmafnifgegfbaa
open Go.RowKit Go.Shelf Go.Deep

theorem put_all (ls : List Ln) (x : Ln) (A : Option Addr) (c : Nat) (w : World) (hr : LlOk ls A w) (hx : Row intL 1 w w.heap.size x.a x.l) (hxl : x.l.length ≤ 1000) (hl : ∀ u ∈ ls, u.l.length = x.l.length) (hn : ls.length ≤ 1000000000000) : Calls Try.prog 71 #[.slice A ls.length c, .slice x.a x.l.length x.c] w fun e w' => ∃ (us : List Ln) (B : Option Addr) (d : Nat), e = .returned (.slice B us.length d) ∧ us.map (·.l) = putL (ls.map (·.l)) x.l ∧ LlOk us B w' ∧ newer w w' := by
  by_cases hne : ls = []
  · subst hne
    refine (put_nil x A c w).mono ?_
    rintro e w' ⟨us, B, d, rfl, h1, h2, h3, h4⟩
    exact ⟨us, B, d, rfl, h1, ⟨row_of_own (enc := lnL) (size := 1) (by decide) (fun _ => rfl) h3, fun u hu => by rw [h2 u hu]; exact (hx.below h4).more h4.size⟩, h4⟩
  · refine (put_any ls x A c w hr hx hxl hl hn hne).mono ?_
    rintro e w' ⟨us, B, d, rfl, h1, h2, h3, h4⟩
    refine ⟨us, B, d, rfl, h1, ⟨row_of_own (enc := lnL) (size := 1) (by decide) (fun _ => rfl) h3, fun u hu => ?_⟩, h4⟩
    rcases h2 u hu with h | rfl
    · exact ((hr.inn u h).below h4).more h4.size
    · exact (hx.below h4).more h4.size
/-- The lists put when so many of a field's are. -/
def tuL (s : Sd) (L : List (List Mv)) (i j : Nat) : List (List Int) := ((listsR s (L.getD i []) s.tools.length 0 []).take j).foldl putL (turnsR s (L.take i))
theorem tuL_zero (s : Sd) (L : List (List Mv)) (i : Nat) : tuL s L i 0 = turnsR s (L.take i) := rfl
theorem tuL_succ {s : Sd} {L : List (List Mv)} {i j : Nat} {x : List Int} (h : (listsR s (L.getD i []) s.tools.length 0 [])[j]? = some x) : tuL s L i (j + 1) = putL (tuL s L i j) x := by
  unfold tuL
  rw [List.take_add_one, h, List.foldl_append]
  rfl
theorem tuL_end {s : Sd} {L : List (List Mv)} {i : Nat} (hi : i < L.length) : tuL s L i (listsR s (L.getD i []) s.tools.length 0 []).length = turnsR s (L.take (i + 1)) := by
  unfold tuL
  rw [List.take_length]
  unfold turnsR
  rw [List.take_add_one, List.getElem?_eq_getElem hi, List.foldl_append]
  show _ = List.foldl putL _ (listsR s L[i] s.tools.length 0 [])
  rw [List.getD_eq_getElem?_getD, List.getElem?_eq_getElem hi]
  rfl
theorem tuL_ok (s : Sd) (L : List (List Mv)) (i j : Nat) : PutsOk (turnN s.tools) (tuL s L i j) := by
  have hall : ∀ (xs l : List (List Int)), (∀ x ∈ xs, x.length = turnN s.tools ∧ ∀ k ∈ x, k ∈ kAll) → PutsOk (turnN s.tools) l → PutsOk (turnN s.tools) (xs.foldl putL l) := by
    intro xs
    induction xs with
    | nil => exact fun l _ h => h
    | cons x xs ih => exact fun l hx h => ih _ (fun y hy => hx y (List.mem_cons_of_mem _ hy)) (h.put (hx x (List.mem_cons_self ..)).1 (hx x (List.mem_cons_self ..)).2)
  have hmem : ∀ (f : List Mv), ∀ x ∈ listsR s f s.tools.length 0 [], x.length = turnN s.tools ∧ ∀ k ∈ x, k ∈ kAll := fun f x hx => ⟨lists_len hx, lists_kAll _ _ _ (fun k hk => by simp at hk) x hx⟩
  have hf : ∀ (fs : List (List Mv)) (l : List (List Int)), PutsOk (turnN s.tools) l → PutsOk (turnN s.tools) (fs.foldl (fun l f => (listsR s f s.tools.length 0 []).foldl putL l) l) := by
    intro fs
    induction fs with
    | nil => exact fun l h => h
    | cons f fs ih => exact fun l h => ih _ (hall _ _ (hmem f) h)
  exact hall _ _ (fun x hx => hmem _ x (List.mem_of_mem_take hx)) (hf _ _ ⟨fun a ha => by simp at ha, fun a ha => by simp at ha, List.Pairwise.nil⟩)
theorem turnN_le (ts : List Tl) : turnN ts ≤ ts.length := List.length_filter_le _ _
set_option maxRecDepth 100000 in
set_option maxHeartbeats 8000000 in
theorem turnsR_any (y : Sm) (xs : List Fl) (A : Option Addr) (c B0 : Nat) (w : World) (hok : SmOk y w) (hs : SdOk y.s) (h3 : y.s.tools.length ≤ 3) (hr : Row flL 1 w w.heap.size A xs) (hin : FlIn B0 xs w) (hn : xs.length ≤ 5000000) (hfl : ∀ x ∈ xs, x.f.length = y.s.spots.length) (hbd : ∀ x ∈ xs, ∀ m ∈ x.f, (-30 ≤ m.1 ∧ m.1 ≤ 30) ∧ -30 ≤ m.2 ∧ m.2 ≤ 30) : Calls Try.prog 34 #[smV y, .slice A xs.length c] w fun e w' => ∃ (us : List Ln) (B : Option Addr) (d : Nat), e = .returned (.slice B us.length d) ∧ LlOk us B w' ∧ us.map (·.l) = turnsR y.s (xs.map (·.f)) ∧ newer w w' := by
  have HC : Hid (∀ (k : Nat) (x : Fl), xs[k]? = some x → ∃ ab ao, A = some ⟨ab, ao, none⟩ ∧ w.cell? ⟨ab, ao + k, none⟩ = some (.slice x.a x.f.length x.c)) := Lib.hid (fun k x hk => by
    obtain ⟨ab, ao, e, -, hcell⟩ := hr (fun e => by rw [e] at hk; simp at hk)
    have h := hcell k x hk 0 _ rfl
    rw [Nat.mul_one, Nat.add_zero] at h
    exact ⟨ab, ao, e, h⟩)
  have HLI0 : Hid (∀ (k : Nat) (x : Fl), xs[k]? = some x → ∀ W, newer w W → Calls Try.prog 70 #[smV y, .slice x.a x.f.length x.c, vi 0, .slice none 0 0] W fun e w' => (∃ (us : List Ln) (A : Option Addr) (c : Nat), e = .returned (.slice A us.length c) ∧ Row lnL 1 w' w'.heap.size A us ∧ LkIn W.heap.size us w' ∧ us.map (·.l) = listsR y.s x.f y.s.tools.length 0 []) ∧ newer W w') := Lib.hid (fun k x hk W hW => by
    have hm := List.mem_of_getElem? hk
    exact listsR_any y x.f hs h3 (hfl x hm) (hbd x hm) y.s.tools.length [] none 0 x.a x.c 0 W (hok.next hW) (((hin.ok x hm).below hW).more hW.size) (fun h => absurd rfl h) (by omega) (by simp))
  obtain ⟨L, hL⟩ : ∃ L, L = xs.map (·.f) := ⟨_, rfl⟩
  rw [← hL]
  have HLL : Hid (∀ (k : Nat) (x : Fl), xs[k]? = some x → L.getD k [] = x.f) := Lib.hid (fun k x hk => by rw [hL, List.getD_eq_getElem?_getD, List.getElem?_map, hk]; rfl)
  have HLN : Hid (L.length = xs.length) := Lib.hid (by rw [hL, List.length_map])
  have HT3 := Lib.hid h3
  have H3 := Lib.hid (Nat.le_trans (turnN_le y.s.tools) h3)
  have HN0 := Lib.hid (And.intro (newer_allocH w (.cells (smC y) 26)) (Whole.made w 26 (smC y)))
  obtain ⟨n, hnn⟩ : ∃ n, n = xs.length := ⟨_, rfl⟩
  rw [← hnn] at hn HLN ⊢
  have HNX := Lib.hid hnn
  clear hok hs h3 hr hin hfl hbd hL hnn
  go_enter Try.func34, Try.ntmps34
  go_wp2_with fail
  try go_frame
  go_loopw [5, 6] (fun s5 s6 wr => ∃ (i : Nat) (us : List Ln) (B : Option Addr) (d : Nat), i ≤ n ∧ s5 = .slice B us.length d ∧ s6 = vi i ∧ LlOk us B wr ∧ us.map (·.l) = turnsR y.s (L.take i) ∧ newer w wr ∧ Whole wr w.heap.size 26 (smC y)) (fun _ s6 _ => n - (intOf s6).toNat)
  case atStart => exact ⟨0, [], none, 0, Nat.zero_le _, rfl, rfl, ⟨fun h => absurd rfl h, fun x hx => by simp at hx⟩, rfl, HN0.out.1, HN0.out.2⟩
  case round =>
    obtain ⟨wo, rfl⟩ : ∃ v, v = wr := ⟨_, rfl⟩
    obtain ⟨i, us, B, d, hi, rfl, rfl, hll, hmap, hnw, hx⟩ := hrel
    have HJ := Lib.hid (And.intro hll (And.intro hmap (And.intro hnw hx)))
    clear hll hmap
    by_cases hlt : i < n
    · have hin : (i : Int) < n := by omega
      obtain ⟨xx, hxx⟩ : ∃ x, xs[i]? = some x := ⟨_, List.getElem?_eq_getElem (by rw [← HNX.out]; exact hlt)⟩
      obtain ⟨ab, ao, rfl, cx⟩ := HC.out i xx hxx
      have cx := keep_cell cx hnw
      have x0 := hx.at 0 (v := .slice y.sa y.s.spots.length y.sc) rfl
      have x1 := hx.at 1 (v := vi y.s.strain) rfl
      have x2 := hx.at 2 (v := .slice y.ta y.s.tools.length y.tc) rfl
      have x3 := hx.at 3 (v := vi y.s.day) rfl
      have x4 := hx.at 4 (v := .slice y.ra y.s.reads.length y.rc) rfl
      have HLI : Hid (∀ W, newer wo W → Calls Try.prog 70 #[smV y, .slice xx.a xx.f.length xx.c, vi 0, .slice none 0 0] W fun e w' => (∃ (us : List Ln) (A : Option Addr) (c : Nat), e = .returned (.slice A us.length c) ∧ Row lnL 1 w' w'.heap.size A us ∧ LkIn W.heap.size us w' ∧ us.map (·.l) = listsR y.s xx.f y.s.tools.length 0 []) ∧ newer W w') := Lib.hid (fun W hW => HLI0.out i xx hxx W (newer_trans HJ.out.2.2.1 hW))
      have HXF := Lib.hid (HLL.out i xx hxx)
      have HLT := Lib.hid hlt
      clear hxx hnw hx
      go_wp2_with fail
      go_upto_region 5 with fail
      refine wp_words (by kernel_rfl) (region_told 6 (by kernel_rfl) (by kernel_rfl) (fun W => Below wo.heap.size wo W) newer (pickD [vIs (smV y), vIs (.slice (some ⟨ab, ao, none⟩) n c), vIs (.int .i64 i), vIs (.pointer (some ⟨ab, ao + i, none⟩)), vIs (.slice xx.a xx.f.length xx.c), vLks wo.heap.size (listsR y.s xx.f y.s.tools.length 0 [])]) (fun h k => newer_trans h k) (pickD_stable _ ⟨vIs_st, vIs_st, vIs_st, vIs_st, vIs_st, vLks_st, trivial⟩) (Below.refl _ wo).drew (Below.refl _ _) ?_ ?_)
      · refine ⟨?_, ?_, ?_, ?_, ?_, ?_, trivial⟩
        · intro a W hG hR hO hp
          have h2 := hO.slot 2 (by kernel_rfl)
          have c0 := keep_cell x0 hG
          have c1 := keep_cell x1 hG
          have c2 := keep_cell x2 hG
          have c3 := keep_cell x3 hG
          have c4 := keep_cell x4 hG
          refine kY (v := smV y) hG rfl ?_
          simp [slotOf] at h2
          simp [execOp, go_sem, h2, c0, c1, c2, c3, c4]
        · exact fun a W hG _ hO _ => kM 1 rfl (hO.slot 1 (by kernel_rfl)) rfl hG
        · exact fun a W hG _ hO _ => kM 6 rfl (hO.slot 6 (by kernel_rfl)) rfl hG
        · intro a W hG hR hO hp
          have h16 : slotOf a 16 = .slice (some ⟨ab, ao, none⟩) n c := hp.1
          have h17 : slotOf a 17 = .int .i64 i := hp.2.1
          refine kY (v := .pointer (some ⟨ab, ao + i, none⟩)) hG rfl ?_
          simp [slotOf] at h16 h17
          simp [execOp, go_sem, h16, h17, hin]
        · intro a W hG hR hO hp
          have h18 : slotOf a 18 = .pointer (some ⟨ab, ao + i, none⟩) := hp.1
          have c0 := keep_cell cx hG
          refine kY (v := .slice xx.a xx.f.length xx.c) hG rfl ?_
          simp [slotOf] at h18
          simp [execOp, go_sem, h18, c0]
        · intro a W hG hR hO hp
          have h15 : slotOf a 15 = smV y := hp.1
          have h19 : slotOf a 19 = .slice xx.a xx.f.length xx.c := hp.2.1
          refine wp_enters (f := 70) (args := #[smV y, .slice xx.a xx.f.length xx.c, vi 0, .slice none 0 0]) ?_ ((HLI.out W hG).mono ?_)
          · simp [slotOf] at h15 h19
            simp [go_sem, h15, h19]
          · rintro e w' ⟨⟨vs, A3, c3, rfl, h1, h2, h4⟩, hb⟩
            exact ⟨_, rfl, _, rfl, ⟨vs, A3, c3, rfl, h1, h2.low hG.size, h4⟩, hb, below_next hG hb⟩
      · intro w5 hG hR
        rintro _ rfl _ rfl _ rfl _ rfl _ rfl _ ⟨ls, A2, c2, rfl, hrl, hli, hle⟩
        change wpList _ _ _ _ _ _
        simp only [Act.put, List.setIfInBounds_toArray, List.set_cons_zero, List.set_cons_succ, List.drop_succ_cons, List.drop_zero]
        have HL5 := Lib.hid (And.intro hrl hli)
        have HLE : Hid (listsR y.s (L.getD i []) y.s.tools.length 0 [] = ls.map (·.l)) := Lib.hid (by rw [HXF.out]; exact hle.symm)
        have HW5 := Lib.hid (And.intro (HJ.out.1.next hG) (And.intro HJ.out.2.1 (And.intro (newer_trans HJ.out.2.2.1 hG) (HJ.out.2.2.2.below hG HJ.out.2.2.2.lt))))
        have HLL5 : Hid (ls.length ≤ 27027009001) := Lib.hid (by
          have h1 := congrArg List.length hle
          rw [List.length_map] at h1
          rw [h1]
          exact Nat.le_trans (lists_few _ _ _) (Nat.le_trans (Nat.pow_le_pow_right (by decide) HT3.out) (by decide)))
        clear hrl hli hle hG cx x0 x1 x2 x3 x4 HLI HJ
        obtain ⟨m, hm⟩ : ∃ m, m = ls.length := ⟨_, rfl⟩
        rw [← hm] at HLL5 ⊢
        have HM := Lib.hid hm
        clear hm
        have hm27 := HLL5.out
        go_wp2_with fail
        try go_frame
        go_loopw [5, 8] (fun s5 s8 wr => ∃ (j : Nat) (us : List Ln) (B : Option Addr) (d : Nat), j ≤ m ∧ s5 = .slice B us.length d ∧ s8 = vi j ∧ LlOk us B wr ∧ us.map (·.l) = tuL y.s L i j ∧ newer w5 wr) (fun _ s8 _ => m - (intOf s8).toNat)
        case atStart => exact ⟨0, us, B, d, Nat.zero_le _, rfl, rfl, HW5.out.1, HW5.out.2.1, newer_refl _⟩
        case round =>
          obtain ⟨j, us, B, d, hj, rfl, rfl, hll, hmap, hn2⟩ := hrel
          have HK := Lib.hid (And.intro hll (And.intro hmap hn2))
          clear hll hmap
          by_cases hltj : j < m
          · have hjm : (j : Int) < m := by omega
            obtain ⟨u, hu⟩ : ∃ u, ls[j]? = some u := ⟨_, List.getElem?_eq_getElem (by rw [← HM.out]; exact hltj)⟩
            obtain ⟨lb, lo, rfl, -, cu⟩ := rowLn HL5.out.1 hu
            have cu := keep_cell cu hn2
            have HPU := Lib.hid (put_all us u B d wr HK.out.1 (((HL5.out.2.ok u (List.mem_of_getElem? hu)).below hn2).more hn2.size) (by
              have h1 : u.l ∈ listsR y.s (L.getD i []) y.s.tools.length 0 [] := by rw [HLE.out]; exact List.mem_map.2 ⟨u, List.mem_of_getElem? hu, rfl⟩
              rw [lists_len h1]
              have := H3.out
              omega) (fun v hv => by
              have h1 : u.l ∈ listsR y.s (L.getD i []) y.s.tools.length 0 [] := by rw [HLE.out]; exact List.mem_map.2 ⟨u, List.mem_of_getElem? hu, rfl⟩
              rw [lists_len h1]
              exact (tuL_ok y.s L i j).len _ (by rw [← HK.out.2.1]; exact List.mem_map.2 ⟨v, hv, rfl⟩)) (by
              have h1 := (tuL_ok y.s L i j).few H3.out
              rw [← HK.out.2.1, List.length_map] at h1
              omega))
            have HTS : Hid (tuL y.s L i (j + 1) = putL (tuL y.s L i j) u.l) := Lib.hid (tuL_succ (by rw [HLE.out, List.getElem?_map, hu]; rfl))
            clear hu hn2
            go_wp2_with fail
            refine (HPU.out).mono ?_
            rintro e w6 ⟨vs, B2, d2, rfl, h1, h2, hb⟩
            have HE := Lib.hid (And.intro h2 (And.intro (h1.trans (by rw [HK.out.2.1, ← HTS.out])) (newer_trans HK.out.2.2 hb)))
            clear h1 h2 hb cu HPU
            go_wp2_with fail
            go_roundw
            case rel => exact ⟨j + 1, vs, B2, d2, hltj, rfl, by go_num, HE.out.1, HE.out.2.1, HE.out.2.2⟩
            case measure => simp [intOf]; omega
          · obtain rfl : j = m := by omega
            have hjm : ¬ (j : Int) < j := by omega
            have HTE : Hid (tuL y.s L i j = turnsR y.s (L.take (i + 1))) := Lib.hid (by
              have h1 := congrArg List.length HLE.out
              rw [List.length_map, ← HM.out] at h1
              rw [← h1]
              exact tuL_end (by rw [HLN.out]; exact HLT.out))
            clear hn2
            go_wp2_with fail
            go_roundw
            case rel => exact ⟨i + 1, us, B, d, HLT.out, rfl, by go_num, HK.out.1, HK.out.2.1.trans HTE.out, newer_trans HW5.out.2.2.1 HK.out.2.2, HW5.out.2.2.2.below HK.out.2.2 HW5.out.2.2.2.lt⟩
            case measure => simp [intOf]; have := HLT.out; omega
    · obtain rfl : i = n := by omega
      have hin : ¬ (i : Int) < i := by omega
      clear hnw hx
      go_wp2_with fail
      go_ret
      have HQ := Lib.hid (And.intro HJ.out.1 (And.intro (show us.map (·.l) = turnsR y.s L by rw [HJ.out.2.1, List.take_of_length_le (by rw [HLN.out]; exact Nat.le_refl _)]) HJ.out.2.2.1))
      first | exact ⟨us, B, d, rfl, HQ.out.1, HQ.out.2.1, HQ.out.2.2⟩ | exact ⟨us, B, ⟨d, rfl⟩, HQ.out.1, HQ.out.2.1, HQ.out.2.2⟩

end Go.Proofs.Ytpmafnifgegfbaa

namespace Go.Proofs.Ytpmafnifgegfbaa
open Go.RowKit Go.Shelf Go.Deep

theorem fields_bd {s : Sd} (h : SdOk s) {f : List Mv} (hf : f ∈ allR s) : f.length = s.spots.length ∧ ∀ m ∈ f, (-30 ≤ m.1 ∧ m.1 ≤ 30) ∧ -30 ≤ m.2 ∧ m.2 ≤ 30 := by
  have h1 := (Bool.and_eq_true _ _ ▸ mem_all.1 hf : isFieldB s f = true ∧ waysB s f = true).1
  obtain ⟨hl, hi⟩ := isField_iff.1 h1
  refine ⟨hl, fun m hm => ?_⟩
  obtain ⟨i, hi1, e⟩ := List.getElem_of_mem hm
  have hm2 : f[i]? = some m := by rw [List.getElem?_eq_getElem hi1, e]
  have h2 := hi.bd h (i := i) (by omega)
  rwa [fnL_at hm2] at h2
theorem listsR_ne {s : Sd} {f : List Mv} (hw : ∀ (j : Nat) (t : Tl), s.tools[j]? = some t → waysN s j t (fnL f t.spot.toNat) ≠ []) : ∀ (r tool : Nat) (b : List Int), tool + r ≤ s.tools.length → listsR s f r tool b ≠ []
  | 0, _, b, _ => by simp [listsR]
  | r + 1, tool, b, h => by
    obtain ⟨t, ht⟩ : ∃ t, s.tools[tool]? = some t := ⟨_, List.getElem?_eq_getElem (by omega)⟩
    rw [listsR, ht]
    show (if t.turn = 0 then _ else _) ≠ []
    split
    · exact listsR_ne hw r _ b (by omega)
    · intro e
      obtain ⟨k, hk⟩ := List.exists_mem_of_ne_nil _ (hw tool t ht)
      exact listsR_ne hw r (tool + 1) (b ++ [k]) (by omega) (List.flatMap_eq_nil_iff.1 e k hk)
theorem turnsR_ne {s : Sd} {all : List (List Mv)} (hne : all ≠ []) (ha : ∀ f ∈ all, f ∈ allR s) : turnsR s all ≠ [] := by
  obtain ⟨f, hf⟩ := List.exists_mem_of_ne_nil _ hne
  have h1 := (Bool.and_eq_true _ _ ▸ mem_all.1 (ha f hf) : isFieldB s f = true ∧ waysB s f = true).2
  obtain ⟨l, hl⟩ := List.exists_mem_of_ne_nil _ (listsR_ne (s := s) (f := f) (fun j t ht e => by
    have h2 := List.all_eq_true.1 h1 j (List.mem_range.2 (List.getElem?_eq_some_iff.1 ht).1)
    rw [ht] at h2
    simp [e] at h2) s.tools.length 0 [] (by omega))
  exact List.ne_nil_of_mem (mem_turns.2 ⟨f, hf, hl⟩)
theorem turns_none {s : Sd} (h : SdOk s) (ha : allR s = []) : turnE s = 9 ∧ turnLs s = [] := by
  have e : turnsN s = [] := by rw [← turns_is h, ha]; rfl
  rcases turn_three h with ⟨_, _, h3⟩ | ⟨h1, h2, _⟩ | ⟨_, _, h3, _⟩
  · rw [e] at h3; simp at h3
  · exact ⟨h1, h2⟩
  · exact absurd e h3
theorem turns_some {s : Sd} (h : SdOk s) (ha : allR s ≠ []) : (turnE s = 3 ∧ turnLs s = [] ∧ 60 < (turnsN s).length) ∨ (turnE s = 0 ∧ turnLs s = turnsN s ∧ (turnsN s).length ≤ 60) := by
  have e : turnsN s ≠ [] := by rw [← turns_is h]; exact turnsR_ne ha fun f hf => hf
  rcases turn_three h with h1 | ⟨_, _, h3⟩ | ⟨h1, h2, _, h4⟩
  · exact .inl h1
  · exact absurd h3 e
  · exact .inr ⟨h1, h2, h4⟩
theorem turns_not (y : Sm) (w : World) (hok : SmOk y w) (few : SmFew y) (v : Int) (hE : turnE y.s = v) (hL : turnLs y.s = []) : Calls Try.prog 32 #[smV y] w fun e w' => ∃ A c, e = .returned (.tuple #[.slice A 0 c, vi v]) ∧ newer w w' := by
  refine (turns_all y w hok few).mono ?_
  rintro e w' ⟨xs, A, c, rfl, h1, _, h3⟩
  rw [hL, List.map_eq_nil_iff] at h1
  subst h1
  exact ⟨A, c, by rw [hE]; rfl, h3⟩
theorem turns_yes (y : Sm) (w : World) (hok : SmOk y w) (few : SmFew y) (hE : turnE y.s = 0) : Calls Try.prog 32 #[smV y] w fun e w' => ∃ (xs : List Ln) (A : Option Addr) (c : Nat), e = .returned (.tuple #[.slice A xs.length c, vi 0]) ∧ xs.map (·.l) = turnLs y.s ∧ LlOk xs A w' ∧ newer w w' := by
  refine (turns_all y w hok few).mono ?_
  rintro e w' ⟨xs, A, c, rfl, h1, h2, h3⟩
  exact ⟨xs, A, c, by rw [hE], h1, h2.ok, h3⟩
/-- The reference's Turns of all fields that agree. -/
theorem turnsR_all (y : Sm) (xs : List Fl) (A : Option Addr) (c B0 : Nat) (w : World) (hok : SmOk y w) (hs : SdOk y.s) (h3 : y.s.tools.length ≤ 3) (hr : Row flL 1 w w.heap.size A xs) (hin : FlIn B0 xs w) (hn : (allR y.s).length ≤ 5000000) (hm : xs.map (·.f) = allR y.s) : Calls Try.prog 34 #[smV y, .slice A xs.length c] w fun e w' => ∃ (us : List Ln) (B : Option Addr) (d : Nat), e = .returned (.slice B us.length d) ∧ LlOk us B w' ∧ us.map (·.l) = turnsN y.s ∧ newer w w' := by
  have hb : ∀ x ∈ xs, x.f ∈ allR y.s := fun x hx => by rw [← hm]; exact List.mem_map.2 ⟨x, hx, rfl⟩
  refine (turnsR_any y xs A c B0 w hok hs h3 hr hin (by rw [← hm, List.length_map] at hn; exact hn) (fun x hx => (fields_bd hs (hb x hx)).1) (fun x hx => (fields_bd hs (hb x hx)).2)).mono ?_
  rintro e w' ⟨us, B, d, rfl, h1, h2, h4⟩
  exact ⟨us, B, d, rfl, h1, by rw [h2, hm, turns_is hs], h4⟩
set_option maxRecDepth 100000 in
set_option maxHeartbeats 8000000 in
theorem radarTurns_walk (y : Sm) (w : World) (hok : SmOk y w) : Calls Try.prog 4 #[smV y] w fun e w' => e = .returned (.bool true) ∧ newer w w' := by
  have hnw := newer_allocH w (.cells (smC y) 26)
  have hxb := Whole.made w 26 (smC y)
  have HFE := Lib.hid (few_any y _ (hok.next hnw))
  have HN0 := Lib.hid (And.intro hnw hxb)
  have HOK := Lib.hid hok
  have x0 := hxb.at 0 (v := .slice y.sa y.s.spots.length y.sc) rfl
  have x1 := hxb.at 1 (v := vi y.s.strain) rfl
  have x2 := hxb.at 2 (v := .slice y.ta y.s.tools.length y.tc) rfl
  have x3 := hxb.at 3 (v := vi y.s.day) rfl
  have x4 := hxb.at 4 (v := .slice y.ra y.s.reads.length y.rc) rfl
  clear hok hnw hxb
  go_enter Try.func4, Try.ntmps4
  go_wp2_with fail
  refine (HFE.out).mono ?_
  rintro e w1 ⟨b, rfl, hfb, hb⟩
  have HN1 := Lib.hid (And.intro (newer_trans HN0.out.1 hb) (HN0.out.2.below hb HN0.out.2.lt))
  clear hb x0 x1 x2 x3 x4 HFE HN0
  have x0 := HN1.out.2.at 0 (v := .slice y.sa y.s.spots.length y.sc) rfl
  have x1 := HN1.out.2.at 1 (v := vi y.s.strain) rfl
  have x2 := HN1.out.2.at 2 (v := .slice y.ta y.s.tools.length y.tc) rfl
  have x3 := HN1.out.2.at 3 (v := vi y.s.day) rfl
  have x4 := HN1.out.2.at 4 (v := .slice y.ra y.s.reads.length y.rc) rfl
  cases b with
  | false =>
    clear hfb x0 x1 x2 x3 x4
    go_wp2_with fail
    refine (awake_any _).mono ?_
    rintro e wk ⟨rfl, hb⟩
    have HK := Lib.hid (newer_trans (HN1.out.1) hb)
    clear hb
    go_wp2_with fail
    go_ret
    exact ⟨rfl, HK.out⟩
  | true =>
    obtain ⟨hth, h3⟩ := hfb rfl
    have HFW := Lib.hid (thin_few hth).1
    clear hth hfb
    by_cases he : errN y.s = 0
    case neg =>
      have HE : Hid (turnE y.s = errN y.s ∧ turnLs y.s = []) := Lib.hid (by
        have h1 : turnE y.s = errN y.s := by unfold turnE; rw [if_neg he]
        exact ⟨h1, by unfold turnLs; rw [if_neg (by rw [h1]; exact he)]⟩)
      clear h3
      go_wp2_with fail
      refine (survey_any y _ (HOK.out.next HN1.out.1) HFW.out).mono ?_
      rintro e w2 ⟨sa1, sc1, ta1, tc1, ra1, rc1, rfl, ho1, hb⟩
      have HN2 := Lib.hid (And.intro (newer_trans HN1.out.1 hb) (HN1.out.2.below hb HN1.out.2.lt))
      have HZ1 := Lib.hid ho1.ok
      clear ho1
      clear hb x0 x1 x2 x3 x4
      have x0 := HN2.out.2.at 0 (v := .slice y.sa y.s.spots.length y.sc) rfl
      have x1 := HN2.out.2.at 1 (v := vi y.s.strain) rfl
      have x2 := HN2.out.2.at 2 (v := .slice y.ta y.s.tools.length y.tc) rfl
      have x3 := HN2.out.2.at 3 (v := vi y.s.day) rfl
      have x4 := HN2.out.2.at 4 (v := .slice y.ra y.s.reads.length y.rc) rfl
      go_wp2_with fail
      refine (turns_not ⟨y.s, sa1, sc1, ta1, tc1, ra1, rc1⟩ _ HZ1.out (few_s (y := y) rfl HFW.out) (errN y.s) HE.out.1 HE.out.2).mono ?_
      rintro e w3 ⟨A, c, rfl, hb⟩
      have HN3 := Lib.hid (And.intro (newer_trans HN2.out.1 hb) (HN2.out.2.below hb HN2.out.2.lt))
      clear hb x0 x1 x2 x3 x4
      have x0 := HN3.out.2.at 0 (v := .slice y.sa y.s.spots.length y.sc) rfl
      have x1 := HN3.out.2.at 1 (v := vi y.s.strain) rfl
      have x2 := HN3.out.2.at 2 (v := .slice y.ta y.s.tools.length y.tc) rfl
      have x3 := HN3.out.2.at 3 (v := vi y.s.day) rfl
      have x4 := HN3.out.2.at 4 (v := .slice y.ra y.s.reads.length y.rc) rfl
      go_wp2_with fail
      refine (refFault_any y _ (HOK.out.next HN3.out.1) HFW.out).mono ?_
      rintro e w4 ⟨rfl, hb⟩
      have HN4 := Lib.hid (And.intro (newer_trans HN3.out.1 hb) (HN3.out.2.below hb HN3.out.2.lt))
      clear hb x0 x1 x2 x3 x4
      have x0 := HN4.out.2.at 0 (v := .slice y.sa y.s.spots.length y.sc) rfl
      have x1 := HN4.out.2.at 1 (v := vi y.s.strain) rfl
      have x2 := HN4.out.2.at 2 (v := .slice y.ta y.s.tools.length y.tc) rfl
      have x3 := HN4.out.2.at 3 (v := vi y.s.day) rfl
      have x4 := HN4.out.2.at 4 (v := .slice y.ra y.s.reads.length y.rc) rfl
      clear x0 x1 x2 x3 x4
      go_wp2_with fail
      refine (awake_any _).mono ?_
      rintro e wk ⟨rfl, hb⟩
      have HK := Lib.hid (newer_trans (HN4.out.1) hb)
      clear hb
      go_wp2_with fail
      go_ret
      exact ⟨rfl, HK.out⟩
    case pos =>
      have h3s := (h3 he).1
      have HT3 := Lib.hid (h3 he).2
      have hsd := err_iff.1 he
      have HSD := Lib.hid hsd
      have hf0 := fields_any y hsd h3s y.s.spots.length [] none 0
      have HFL : Hid (∀ W, newer w W → Calls Try.prog 33 #[smV y, .slice none 0 0] W fun e w' => (∃ (xs : List Fl) (A : Option Addr) (c : Nat), e = .returned (.slice A xs.length c) ∧ Row flL 1 w' w'.heap.size A xs ∧ FlIn W.heap.size xs w' ∧ xs.map (·.f) = allR y.s) ∧ newer W w') := Lib.hid (fun W hW => hf0 W (HOK.out.next hW) (fun h => absurd rfl h) (by simp) (fun m hm => by simp at hm))
      have HAL : Hid ((allR y.s).length ≤ 5000000) := Lib.hid (Nat.le_trans (fields_len hsd (A := agreesB y.s) y.s.spots.length []) (Nat.le_trans (Nat.pow_le_pow_right (by decide) h3s) (by decide)))
      clear hf0 h3s h3
      by_cases ha : allR y.s = []
      · have HE := Lib.hid (turns_none hsd ha)
        have HA := Lib.hid ha
        clear hsd ha
        go_wp2_with fail
        refine (survey_any y _ (HOK.out.next HN1.out.1) HFW.out).mono ?_
        rintro e w2 ⟨sa1, sc1, ta1, tc1, ra1, rc1, rfl, ho1, hb⟩
        have HN2 := Lib.hid (And.intro (newer_trans HN1.out.1 hb) (HN1.out.2.below hb HN1.out.2.lt))
        have HZ1 := Lib.hid ho1.ok
        clear ho1
        clear hb x0 x1 x2 x3 x4
        have x0 := HN2.out.2.at 0 (v := .slice y.sa y.s.spots.length y.sc) rfl
        have x1 := HN2.out.2.at 1 (v := vi y.s.strain) rfl
        have x2 := HN2.out.2.at 2 (v := .slice y.ta y.s.tools.length y.tc) rfl
        have x3 := HN2.out.2.at 3 (v := vi y.s.day) rfl
        have x4 := HN2.out.2.at 4 (v := .slice y.ra y.s.reads.length y.rc) rfl
        go_wp2_with fail
        refine (turns_not ⟨y.s, sa1, sc1, ta1, tc1, ra1, rc1⟩ _ HZ1.out (few_s (y := y) rfl HFW.out) 9 HE.out.1 HE.out.2).mono ?_
        rintro e w3 ⟨A, c, rfl, hb⟩
        have HN3 := Lib.hid (And.intro (newer_trans HN2.out.1 hb) (HN2.out.2.below hb HN2.out.2.lt))
        clear hb x0 x1 x2 x3 x4
        have x0 := HN3.out.2.at 0 (v := .slice y.sa y.s.spots.length y.sc) rfl
        have x1 := HN3.out.2.at 1 (v := vi y.s.strain) rfl
        have x2 := HN3.out.2.at 2 (v := .slice y.ta y.s.tools.length y.tc) rfl
        have x3 := HN3.out.2.at 3 (v := vi y.s.day) rfl
        have x4 := HN3.out.2.at 4 (v := .slice y.ra y.s.reads.length y.rc) rfl
        go_wp2_with fail
        refine (refFault_any y _ (HOK.out.next HN3.out.1) HFW.out).mono ?_
        rintro e w4 ⟨rfl, hb⟩
        have HN4 := Lib.hid (And.intro (newer_trans HN3.out.1 hb) (HN3.out.2.below hb HN3.out.2.lt))
        clear hb x0 x1 x2 x3 x4
        have x0 := HN4.out.2.at 0 (v := .slice y.sa y.s.spots.length y.sc) rfl
        have x1 := HN4.out.2.at 1 (v := vi y.s.strain) rfl
        have x2 := HN4.out.2.at 2 (v := .slice y.ta y.s.tools.length y.tc) rfl
        have x3 := HN4.out.2.at 3 (v := vi y.s.day) rfl
        have x4 := HN4.out.2.at 4 (v := .slice y.ra y.s.reads.length y.rc) rfl
        go_wp2_with fail
        refine (HFL.out _ HN4.out.1).mono ?_
        rintro e w5 ⟨⟨xs, A, c, rfl, -, -, hmap⟩, hb⟩
        rw [HA.out, List.map_eq_nil_iff] at hmap
        subst hmap
        have HN5 := Lib.hid (newer_trans HN4.out.1 hb)
        clear hb x0 x1 x2 x3 x4
        go_wp2_with fail
        refine (awake_any _).mono ?_
        rintro e wk ⟨rfl, hb⟩
        have HK := Lib.hid (newer_trans (HN5.out) hb)
        clear hb
        go_wp2_with fail
        go_ret
        exact ⟨rfl, HK.out⟩
      · have HA := Lib.hid ha
        rcases turns_some hsd ha with hE | hE
        · have HE := Lib.hid hE
          clear hsd ha hE
          go_wp2_with fail
          refine (survey_any y _ (HOK.out.next HN1.out.1) HFW.out).mono ?_
          rintro e w2 ⟨sa1, sc1, ta1, tc1, ra1, rc1, rfl, ho1, hb⟩
          have HN2 := Lib.hid (And.intro (newer_trans HN1.out.1 hb) (HN1.out.2.below hb HN1.out.2.lt))
          have HZ1 := Lib.hid ho1.ok
          clear ho1
          clear hb x0 x1 x2 x3 x4
          have x0 := HN2.out.2.at 0 (v := .slice y.sa y.s.spots.length y.sc) rfl
          have x1 := HN2.out.2.at 1 (v := vi y.s.strain) rfl
          have x2 := HN2.out.2.at 2 (v := .slice y.ta y.s.tools.length y.tc) rfl
          have x3 := HN2.out.2.at 3 (v := vi y.s.day) rfl
          have x4 := HN2.out.2.at 4 (v := .slice y.ra y.s.reads.length y.rc) rfl
          go_wp2_with fail
          refine (turns_not ⟨y.s, sa1, sc1, ta1, tc1, ra1, rc1⟩ _ HZ1.out (few_s (y := y) rfl HFW.out) 3 HE.out.1 HE.out.2.1).mono ?_
          rintro e w3 ⟨A, c, rfl, hb⟩
          have HN3 := Lib.hid (And.intro (newer_trans HN2.out.1 hb) (HN2.out.2.below hb HN2.out.2.lt))
          clear hb x0 x1 x2 x3 x4
          have x0 := HN3.out.2.at 0 (v := .slice y.sa y.s.spots.length y.sc) rfl
          have x1 := HN3.out.2.at 1 (v := vi y.s.strain) rfl
          have x2 := HN3.out.2.at 2 (v := .slice y.ta y.s.tools.length y.tc) rfl
          have x3 := HN3.out.2.at 3 (v := vi y.s.day) rfl
          have x4 := HN3.out.2.at 4 (v := .slice y.ra y.s.reads.length y.rc) rfl
          go_wp2_with fail
          refine (refFault_any y _ (HOK.out.next HN3.out.1) HFW.out).mono ?_
          rintro e w4 ⟨rfl, hb⟩
          have HN4 := Lib.hid (And.intro (newer_trans HN3.out.1 hb) (HN3.out.2.below hb HN3.out.2.lt))
          clear hb x0 x1 x2 x3 x4
          have x0 := HN4.out.2.at 0 (v := .slice y.sa y.s.spots.length y.sc) rfl
          have x1 := HN4.out.2.at 1 (v := vi y.s.strain) rfl
          have x2 := HN4.out.2.at 2 (v := .slice y.ta y.s.tools.length y.tc) rfl
          have x3 := HN4.out.2.at 3 (v := vi y.s.day) rfl
          have x4 := HN4.out.2.at 4 (v := .slice y.ra y.s.reads.length y.rc) rfl
          go_wp2_with fail
          refine (HFL.out _ HN4.out.1).mono ?_
          rintro e w5 ⟨⟨fs, FA, fc, rfl, hrw, hfi, hmap⟩, hb⟩
          have HN5 := Lib.hid (And.intro (newer_trans HN4.out.1 hb) (HN4.out.2.below hb HN4.out.2.lt))
          have HB5 := Lib.hid hb
          have HTR := Lib.hid (turnsR_all y fs FA fc _ w5 (HOK.out.next HN5.out.1) HSD.out HT3.out hrw hfi HAL.out hmap)
          have hpos : 0 < fs.length := List.length_pos_iff.2 (fun e => HA.out (by rw [← hmap, e]; rfl))
          have hpos2 : ¬ fs.length = 0 := by omega
          clear hb x0 x1 x2 x3 x4 hrw hfi hmap
          have x0 := HN5.out.2.at 0 (v := .slice y.sa y.s.spots.length y.sc) rfl
          have x1 := HN5.out.2.at 1 (v := vi y.s.strain) rfl
          have x2 := HN5.out.2.at 2 (v := .slice y.ta y.s.tools.length y.tc) rfl
          have x3 := HN5.out.2.at 3 (v := vi y.s.day) rfl
          have x4 := HN5.out.2.at 4 (v := .slice y.ra y.s.reads.length y.rc) rfl
          go_wp2_with fail
          refine (HTR.out).mono ?_
          rintro e w6 ⟨us, UB, ud, rfl, hul, hum, hb⟩
          have HN6 := Lib.hid (newer_trans HN5.out.1 hb)
          have h60 : (60 : Int) < us.length := by
            have h1 := congrArg List.length hum
            rw [List.length_map] at h1
            have := HE.out.2.2
            omega
          clear hb x0 x1 x2 x3 x4 hul hum HTR
          go_wp2_with fail
          refine (awake_any _).mono ?_
          rintro e wk ⟨rfl, hb⟩
          have HK := Lib.hid (newer_trans (HN6.out) hb)
          clear hb
          go_wp2_with fail
          go_ret
          exact ⟨rfl, HK.out⟩
        · have HE := Lib.hid hE
          clear hsd ha hE
          go_wp2_with fail
          refine (survey_any y _ (HOK.out.next HN1.out.1) HFW.out).mono ?_
          rintro e w2 ⟨sa1, sc1, ta1, tc1, ra1, rc1, rfl, ho1, hb⟩
          have HN2 := Lib.hid (And.intro (newer_trans HN1.out.1 hb) (HN1.out.2.below hb HN1.out.2.lt))
          have HZ1 := Lib.hid ho1.ok
          clear ho1
          clear hb x0 x1 x2 x3 x4
          have x0 := HN2.out.2.at 0 (v := .slice y.sa y.s.spots.length y.sc) rfl
          have x1 := HN2.out.2.at 1 (v := vi y.s.strain) rfl
          have x2 := HN2.out.2.at 2 (v := .slice y.ta y.s.tools.length y.tc) rfl
          have x3 := HN2.out.2.at 3 (v := vi y.s.day) rfl
          have x4 := HN2.out.2.at 4 (v := .slice y.ra y.s.reads.length y.rc) rfl
          go_wp2_with fail
          refine (turns_yes ⟨y.s, sa1, sc1, ta1, tc1, ra1, rc1⟩ _ HZ1.out (few_s (y := y) rfl HFW.out) HE.out.1).mono ?_
          rintro e w3 ⟨xs, A, c, rfl, hxm, hxo, hb⟩
          have HN3 := Lib.hid (And.intro (newer_trans HN2.out.1 hb) (HN2.out.2.below hb HN2.out.2.lt))
          have HX3 := Lib.hid hxo
          have HXM := Lib.hid hxm
          clear hxo hxm
          clear hb x0 x1 x2 x3 x4
          have x0 := HN3.out.2.at 0 (v := .slice y.sa y.s.spots.length y.sc) rfl
          have x1 := HN3.out.2.at 1 (v := vi y.s.strain) rfl
          have x2 := HN3.out.2.at 2 (v := .slice y.ta y.s.tools.length y.tc) rfl
          have x3 := HN3.out.2.at 3 (v := vi y.s.day) rfl
          have x4 := HN3.out.2.at 4 (v := .slice y.ra y.s.reads.length y.rc) rfl
          go_wp2_with fail
          refine (refFault_any y _ (HOK.out.next HN3.out.1) HFW.out).mono ?_
          rintro e w4 ⟨rfl, hb⟩
          have HN4 := Lib.hid (And.intro (newer_trans HN3.out.1 hb) (HN3.out.2.below hb HN3.out.2.lt))
          have HX4 := Lib.hid (HX3.out.next hb)
          clear hb x0 x1 x2 x3 x4
          have x0 := HN4.out.2.at 0 (v := .slice y.sa y.s.spots.length y.sc) rfl
          have x1 := HN4.out.2.at 1 (v := vi y.s.strain) rfl
          have x2 := HN4.out.2.at 2 (v := .slice y.ta y.s.tools.length y.tc) rfl
          have x3 := HN4.out.2.at 3 (v := vi y.s.day) rfl
          have x4 := HN4.out.2.at 4 (v := .slice y.ra y.s.reads.length y.rc) rfl
          go_wp2_with fail
          refine (HFL.out _ HN4.out.1).mono ?_
          rintro e w5 ⟨⟨fs, FA, fc, rfl, hrw, hfi, hmap⟩, hb⟩
          have HN5 := Lib.hid (And.intro (newer_trans HN4.out.1 hb) (HN4.out.2.below hb HN4.out.2.lt))
          have HB5 := Lib.hid hb
          have HTR := Lib.hid (turnsR_all y fs FA fc _ w5 (HOK.out.next HN5.out.1) HSD.out HT3.out hrw hfi HAL.out hmap)
          have hpos : 0 < fs.length := List.length_pos_iff.2 (fun e => HA.out (by rw [← hmap, e]; rfl))
          have hpos2 : ¬ fs.length = 0 := by omega
          clear hb x0 x1 x2 x3 x4 hrw hfi hmap
          have x0 := HN5.out.2.at 0 (v := .slice y.sa y.s.spots.length y.sc) rfl
          have x1 := HN5.out.2.at 1 (v := vi y.s.strain) rfl
          have x2 := HN5.out.2.at 2 (v := .slice y.ta y.s.tools.length y.tc) rfl
          have x3 := HN5.out.2.at 3 (v := vi y.s.day) rfl
          have x4 := HN5.out.2.at 4 (v := .slice y.ra y.s.reads.length y.rc) rfl
          go_wp2_with fail
          refine (HTR.out).mono ?_
          rintro e w6 ⟨us, UB, ud, rfl, hul, hum, hb⟩
          have HN6 := Lib.hid (newer_trans HN5.out.1 hb)
          have HX6 := Lib.hid (HX4.out.next (newer_trans HB5.out hb))
          have h60 : ¬ (60 : Int) < us.length := by
            have h1 := congrArg List.length hum
            rw [List.length_map] at h1
            have := HE.out.2.2
            omega
          have hxl : ∀ l ∈ turnsN y.s, l.length ≤ 1000 := fun l hl => by rw [turnsN_len HSD.out hl]; have h1 := turnN_le y.s.tools; have h2 := HT3.out; omega
          have HTT := Lib.hid (turns_any xs us A UB c ud w6 (by have h1 := congrArg List.length HXM.out; rw [List.length_map, HE.out.2.1] at h1; have := HE.out.2.2; omega) (fun x hx => hxl _ (by rw [← HE.out.2.1, ← HXM.out]; exact List.mem_map.2 ⟨x, hx, rfl⟩)) (fun x hx => hxl _ (by rw [← hum]; exact List.mem_map.2 ⟨x, hx, rfl⟩)) HX6.out hul)
          rw [HXM.out, HE.out.2.1, hum, decide_eq_true (rfl : turnsN y.s = turnsN y.s)] at HTT
          clear hb x0 x1 x2 x3 x4 hul hum HTR hxl
          go_wp2_with fail
          refine (HTT.out).mono ?_
          rintro e w7 ⟨rfl, hb⟩
          have HN7 := Lib.hid (newer_trans HN6.out hb)
          clear hb HTT
          go_wp2_with fail
          refine (awake_any _).mono ?_
          rintro e wk ⟨rfl, hb⟩
          have HK := Lib.hid (newer_trans (HN7.out) hb)
          clear hb
          go_wp2_with fail
          go_ret
          exact ⟨rfl, HK.out⟩

end Go.Proofs.Ytpmafnifgegfbaa
