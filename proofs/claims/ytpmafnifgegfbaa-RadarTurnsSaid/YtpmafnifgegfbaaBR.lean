/- All lists of whole turns of a field, by the reference. -/
import Derived.Test.YtpmafnifgegfbaaBL
import Derived.Test.YtpmafnifgegfbaaBQ
namespace Go.Proofs.Ytpmafnifgegfbaa
open Go.RowKit Go.Shelf Go.Deep

/-- Lists, each in a block from B on. -/
structure LkIn (B : Nat) (xs : List Ln) (W : World) : Prop where
  ok : ∀ x ∈ xs, Row intL 1 W W.heap.size x.a x.l
  hi : ∀ x ∈ xs, ∀ ad, x.a = some ad → B ≤ ad.block
  lt : ∀ x ∈ xs, ∀ ad, x.a = some ad → ad.block < W.heap.size
/-- Lists behind one another in a row of one's own. -/
structure LkJ (B : Nat) (L : List (List Int)) (xs : List Ln) (A : Option Addr) (c : Nat) (W : World) : Prop where
  own : W.ownsRow B 24 1 (.slice A xs.length c) xs.length (xs.flatMap lnL)
  sin : LkIn B xs W
  far : ∀ x ∈ xs, ∀ ad, x.a = some ad → (Value.slice A xs.length c).ownBlock ≠ some ad.block
  eq : xs.map (·.l) = L
section
variable {B : Nat} {L : List (List Int)} {us : List Ln} {A : Option Addr} {c : Nat} {W W' : World}
theorem LkIn.next (h : LkIn B us W) (hb : newer W W') : LkIn B us W' := ⟨fun x hx => ((h.ok x hx).below hb).more hb.size, h.hi, fun x hx ad had => Nat.lt_of_lt_of_le (h.lt x hx ad had) hb.size⟩
theorem LkIn.low {B' : Nat} (h : LkIn B us W) (hb : B' ≤ B) : LkIn B' us W := ⟨h.ok, fun x hx ad had => Nat.le_trans hb (h.hi x hx ad had), h.lt⟩
theorem LkJ.next (h : LkJ B L us A c W) (hb : newer W W') : LkJ B L us A c W' := ⟨own_below h.own hb, h.sin.next hb, h.far, h.eq⟩
theorem LkJ.none (B : Nat) (W : World) : LkJ B [] [] none 0 W := ⟨⟨rfl, .inl ⟨rfl, rfl⟩⟩, ⟨fun x hx => by simp at hx, fun x hx => by simp at hx, fun x hx => by simp at hx⟩, fun x hx => by simp at hx, rfl⟩
theorem LkJ.app (h : LkJ B L us A c W) {vs : List Ln} (hv : LkIn B vs W) (hf : ∀ x ∈ vs, ∀ ad, x.a = some ad → (Value.slice A us.length c).ownBlock ≠ some ad.block) {A' : Option Addr} {c' : Nat}
    (hown : W'.ownsRow B 24 1 (.slice A' (us.length + vs.length) c') (us.length + vs.length) (us.flatMap lnL ++ vs.flatMap lnL)) (hg : W.grownBy W' (Value.slice A us.length c).ownBlock)
    (hat : ∀ g, (Value.slice A' (us.length + vs.length) c').ownBlock = some g → (Value.slice A us.length c).ownBlock = some g ∨ g = W.heap.size) : LkJ B (L ++ vs.map (·.l)) (us ++ vs) A' c' W' := by
  have hall : ∀ x ∈ us ++ vs, Row intL 1 W W.heap.size x.a x.l ∧ (∀ ad, x.a = some ad → B ≤ ad.block) ∧ (∀ ad, x.a = some ad → ad.block < W.heap.size) ∧ ∀ ad, x.a = some ad → (Value.slice A us.length c).ownBlock ≠ some ad.block := fun x hx => by
    rcases List.mem_append.1 hx with hx | hx
    · exact ⟨h.sin.ok x hx, h.sin.hi x hx, h.sin.lt x hx, h.far x hx⟩
    · exact ⟨hv.ok x hx, hv.hi x hx, hv.lt x hx, hf x hx⟩
  refine ⟨by rw [List.length_append, List.flatMap_append]; exact hown, ⟨fun x hx => row_grownF (hall x hx).1 hg (hall x hx).2.2.2, fun x hx => (hall x hx).2.1, fun x hx ad had => Nat.lt_of_lt_of_le ((hall x hx).2.2.1 ad had) hg.size⟩, fun x hx ad had e => ?_, by rw [List.map_append, h.eq]⟩
  rw [List.length_append] at e
  rcases hat _ e with e | e
  · exact (hall x hx).2.2.2 ad had e
  · have := (hall x hx).2.2.1 ad had
    omega
theorem LkJ.new (h : LkJ B L us A c W) {w : World} (hB : w.heap.size ≤ B) (hn : newer w W) (hg : W.grownBy W' (Value.slice A us.length c).ownBlock) : newer w W' := by
  cases hx : (Value.slice A us.length c).ownBlock with
  | none =>
    rw [hx] at hg
    exact newer_trans hn (below_grown hg (fun q e => by cases e) (Nat.le_refl _))
  | some k =>
    rw [hx] at hg
    exact Below.trans hn (below_of_grown hg (Nat.le_trans hB (own_ge h.own k hx)) hn.size)
/-- Lists returned, in memory. -/
def LksAt (B : Nat) (L : List (List Int)) (v : Value) (W : World) : Prop := ∃ (xs : List Ln) (A : Option Addr) (c : Nat), v = .slice A xs.length c ∧ Row lnL 1 W W.heap.size A xs ∧ LkIn B xs W ∧ xs.map (·.l) = L
theorem LkJ.out {H : Nat} (h : LkJ B L us A c W) (hB : H ≤ B) : LksAt H L (.slice A us.length c) W := ⟨us, A, c, rfl, row_of_own (enc := lnL) (size := 1) (by decide) (fun _ => rfl) h.own, h.sin.low hB, h.eq⟩
end
def vLks (B : Nat) (L : List (List Int)) (v : Value) (W : World) : Prop := ∃ (xs : List Ln) (A : Option Addr) (c : Nat), v = .slice A xs.length c ∧ Row lnL 1 W W.heap.size A xs ∧ LkIn B xs W ∧ xs.map (·.l) = L
theorem vLks_st {B : Nat} {L : List (List Int)} : ∀ v W W', vLks B L v W → newer W W' → vLks B L v W' := fun _ _ _ ⟨xs, A, c, h1, h2, h3, h4⟩ hb => ⟨xs, A, c, h1, (h2.below hb).more hb.size, h3.next hb, h4⟩
theorem lists_few {s : Sd} {f : List Mv} : ∀ (r tool : Nat) (b : List Int), (listsR s f r tool b).length ≤ 3001 ^ r
  | 0, _, b => by simp [listsR]
  | r + 1, tool, b => by
    rw [listsR]
    have h := lists_few (s := s) (f := f) r
    have h1 : 3001 ^ r ≤ 3001 ^ (r + 1) := Nat.pow_le_pow_right (by decide) (Nat.le_succ _)
    split
    · split
      · exact Nat.le_trans (h _ _) h1
      · rename_i t _ hT
        refine Nat.le_trans (flat_le (c := 3001 ^ r) _ fun k _ => h _ _) ?_
        rw [Nat.pow_succ, Nat.mul_comm (3001 ^ r)]
        refine Nat.mul_le_mul_right _ ?_
        unfold waysN
        rw [if_neg hT]
        exact Nat.le_trans (List.length_filter_le _ _) (by unfold kAll; rw [List.length_map, List.length_range]; exact Nat.le_refl _)
    · simp
/-- What lists does. -/
def ListsAt (y : Sm) (f : List Mv) (r : Nat) : Prop := ∀ (b : List Int) (ba : Option Addr) (bc : Nat) (fa : Option Addr) (fc tool : Nat) (w : World), SmOk y w → Row mvL 2 w w.heap.size fa f → Row intL 1 w w.heap.size ba b → tool + r = y.s.tools.length → b.length ≤ tool → Calls Try.prog 70 #[smV y, .slice fa f.length fc, vi tool, .slice ba b.length bc] w fun e w' => (∃ (xs : List Ln) (A : Option Addr) (c : Nat), e = .returned (.slice A xs.length c) ∧ Row lnL 1 w' w'.heap.size A xs ∧ LkIn w.heap.size xs w' ∧ xs.map (·.l) = listsR y.s f r tool b) ∧ newer w w'
set_option maxRecDepth 100000 in
set_option maxHeartbeats 4000000 in
theorem lists_zero (y : Sm) (f : List Mv) (h8 : y.s.tools.length ≤ 8) : ListsAt y f 0 := by
  intro b ba bc fa fc tool w hok hf hb hr hbl
  have HRB := Lib.hid hb
  have HB := Lib.hid (show b.length ≤ 8 by omega)
  obtain ⟨i0, hi0, hz0, hz1, hz2⟩ := info_parts info_int
  have HI := Lib.hid (And.intro hi0 (And.intro hz0 (And.intro hz1 hz2)))
  obtain ⟨nb, hnb⟩ : ∃ q, q = b.length := ⟨_, rfl⟩
  rw [← hnb]
  have HNB := Lib.hid hnb
  have e1 : ((tool : Int) == (y.s.tools.length : Int)) = true := by simp; omega
  have e2 : (tool == y.s.tools.length) = true := by simp; omega
  clear hi0 hz0 hz1 hz2 hnb hok hf hb hr hbl h8
  go_enter Try.func70, Try.ntmps70
  go_upto_region 1 with fail
  refine genQ (fun X => newer w X ∧ Whole X w.heap.size 26 (smC y)) ⟨newer_allocH _ _, Whole.made _ _ _⟩ ?_
  rintro w2 ⟨hn2, hx2⟩
  have x2 := hx2.at 2 (v := .slice y.ta y.s.tools.length y.tc) rfl
  have H2 := Lib.hid hn2
  have hna := newer_allocH w2 (.cells #[] 3)
  have HRA : Hid (Row intL 1 (w2.alloc (.cells #[] 3)) (w2.alloc (.cells #[] 3)).heap.size ba b) := Lib.hid (by have h := newer_trans H2.out hna; exact (HRB.out.below h).more h.size)
  have HS2 : Hid (w.heap.size ≤ w2.heap.size ∧ w.heap.size ≤ (w2.alloc (.cells #[] 3)).heap.size) := Lib.hid (by have h := H2.out.size; exact ⟨h, Nat.le_trans h hna.size⟩)
  have HN2 := Lib.hid (newer_trans H2.out hna)
  clear hna hn2 hx2
  go_wp2_with (at_builtin; go_loud ((refine wpList_plain rfl fun _ hK => wp_append_owncopy (enc := intL) (size := 1) w.heap.size (.tmp 17) (.tmp 18) 24 3 i0 (.int .i64 0) 8 Try.underlying24 HI.out.1 HI.out.2.1 HI.out.2.2.1 HI.out.2.2.2 rfl (by omega) (by omega) (fun _ => rfl) rfl w2.heap.size rfl HS2.out.1 (Whole.made _ _ _) b ba bc (by rw [← HNB.out]; rfl) (by have := HB.out; omega) HRA.out HS2.out.2 fun B c w7 hown hb hlt => hK _ _ ?_); rw [← HNB.out]; have HO7 := Lib.hid hown; have HB7 := Lib.hid (newer_trans HN2.out hb); have HV7 : Hid (Whole (w7.alloc (.cells #[.slice B nb c] 24)) w7.heap.size 24 #[.slice B nb c]) := Lib.hid (Whole.made _ _ _); have HN7 := Lib.hid (newer_allocH w7 (.cells #[.slice B nb c] 24)); clear hown hb hlt))
  go_ret
  refine ⟨⟨[⟨b, B, c⟩], some ⟨w7.heap.size, 0, none⟩, 1, rfl, row_of_whole (enc := lnL) (s := 1) (fun _ => rfl) HV7.out (by rw [HNB.out]; rfl), ⟨fun x hx => ?_, fun x hx ad had => ?_, fun x hx ad had => ?_⟩, rfl⟩, newer_trans HB7.out HN7.out⟩
  all_goals obtain rfl := List.mem_singleton.1 hx
  · have h := row_of_own (enc := intL) (size := 1) (by decide) (fun _ => rfl) HO7.out
    exact (h.below HN7.out).more HN7.out.size
  · obtain ⟨g, h1, h2⟩ := own_some' HO7.out had
    omega
  · obtain ⟨g, h1, h2, h3⟩ := own_some' HO7.out had
    have := HN7.out.size
    omega

end Go.Proofs.Ytpmafnifgegfbaa
