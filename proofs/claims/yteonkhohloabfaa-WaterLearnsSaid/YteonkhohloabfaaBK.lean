/- Readings: opened as an argument, handed to the program, and tested by Learn. -/
import Derived.Test.YteonkhohloabfaaBX
namespace Go.Proofs.Yteonkhohloabfaa
open Go.ChangeShapes Go.WideShapes Go.ChangeAt Go.RowKit Go.Deep

structure Rdg where
  cell : Int
  day : Int
  lo : Int
  hi : Int
abbrev rdgL (x : Rdg) : List Value := [vi x.cell, vi x.day, vi x.lo, vi x.hi]
abbrev rdgV (x : Rdg) : Value := .agg #[vi x.cell, vi x.day, vi x.lo, vi x.hi]
theorem Try.cells92 : Try.prog.cellsOf 92 = 4 := by kernel_rfl
section
variable {H : Type} {enc : TypeId × Value → H} {w : World} {base : Nat} {spare : Nat → Bool} {held : Bool} {fuel : Nat} {cs : List Value} {x : DataW H × List MemPlace}
theorem rdg_cells (h : DataW.trod enc Try.prog w base spare held fuel 92 cs = some x) : ∃ d : Rdg, cs = rdgL d := by
  obtain ⟨xs, m, _, _, hlen, hxl, hg⟩ := DataW.trod_struct Try.underlying92 h
  rw [Try.cells92] at hlen
  obtain ⟨c0, c1, c2, c3, rfl⟩ := len4 hlen
  obtain ⟨y0, y1, y2, rfl⟩ := len3 (show xs.length = 3 from hxl)
  have h0 := hg 0 _ rfl
  have h1 := hg 1 _ rfl
  have h2 := hg 2 _ rfl
  simp [Try.cells3, Try.cells24] at h0 h1 h2
  obtain ⟨a, ha, _⟩ := DataW.trod_int Try.underlying3 h0
  obtain ⟨b, hb, _⟩ := DataW.trod_int Try.underlying3 h1
  obtain ⟨c, d, hcd⟩ := range_cells h2
  injection ha with ha
  injection hb with hb
  injection hcd with hc hd
  injection hd with hd
  exact ⟨⟨a, b, c, d⟩, by rw [ha, hb, hc, hd]⟩
theorem readings_open (h : DataW.trod enc Try.prog w base spare held fuel 81 cs = some x) : ∃ (D : Option Addr) (l : List Rdg) (dp : Nat), cs = [.slice D l.length dp] ∧ l.length ≤ maxLen ∧ Row rdgL 4 w w.heap.size D l :=
  open_row (ec := rdgL) Try.underlying81 Try.cells92 (fun _ => rfl) (by omega) rdg_cells h
end
theorem row4 {w : World} {B : Nat} {A : Option Addr} {l : List Rdg} (h : Row rdgL 4 w B A l) {k : Nat} {c : Rdg} (hk : l[k]? = some c) :
    ∃ b off, A = some ⟨b, off, none⟩ ∧ b < B ∧ w.cell? ⟨b, off + k * 4, none⟩ = some (.int .i64 c.cell) ∧ w.cell? ⟨b, off + k * 4 + 1, none⟩ = some (.int .i64 c.day) ∧ w.cell? ⟨b, off + k * 4 + 2, none⟩ = some (.int .i64 c.lo) ∧ w.cell? ⟨b, off + k * 4 + 3, none⟩ = some (.int .i64 c.hi) := by
  obtain ⟨b, off, e, hb, hc⟩ := h (ne_nil_of_get hk)
  exact ⟨b, off, e, hb, hc k c hk 0 _ rfl, hc k c hk 1 _ rfl, hc k c hk 2 _ rfl, hc k c hk 3 _ rfl⟩

theorem Try.info103 : (Try.prog.info? 103).map (fun i => (i.zero, i.size, i.bytes)) = some (some (.agg #[.int .i64 0, .int .i64 0, .int .i64 0, .int .i64 0]), 4, 32) := by kernel_rfl
/-- Readings made since. -/
def vRg (l : List Rdg) (v : Value) (W : World) : Prop := ∃ A c, v = .slice A l.length c ∧ Row rdgL 4 W W.heap.size A l
theorem vRg_st {l : List Rdg} : ∀ v W W', vRg l v W → newer W W' → vRg l v W' := fun _ _ _ ⟨A, c, h1, h2⟩ hb => ⟨A, c, h1, (h2.below hb).more hb.size⟩
set_option maxRecDepth 100000 in
set_option maxHeartbeats 2000000 in
theorem lawReadings (l : List Rdg) (D : Option Addr) (dp : Nat) (w : World) (hm : l.length ≤ 1000) (hd : Row rdgL 4 w w.heap.size D l) :
    Calls Try.prog 43 #[.slice D l.length dp] w fun e w' => (∃ v, e = .returned v ∧ vRg l v w') ∧ Below w.heap.size w w' := by
  obtain ⟨i103, hi0, hz0, hz1, hz2⟩ := info_parts Try.info103
  have HI := Lib.hid (And.intro hi0 (And.intro hz0 (And.intro hz1 hz2)))
  clear hi0 hz0 hz1 hz2
  have HD := Lib.hid hd
  clear hd
  go_enter Try.func43, Try.ntmps43
  go_wp2_with fail
  go_loopw [3, 4] (fun s3 s4 wr => ∃ k : Nat, k ≤ l.length ∧ s4 = .int .i64 k ∧ Below w.heap.size w wr ∧ wr.ownsRow w.heap.size 103 4 s3 k ((l.take k).flatMap rdgL)) (fun _ s4 _ => l.length - (intOf s4).toNat)
  case atStart => exact ⟨0, Nat.zero_le _, rfl, Below.refl _ _, by simp, .inl ⟨rfl, rfl⟩⟩
  case round =>
    obtain ⟨k, hk, rfl, hbw, hown⟩ := hrel
    by_cases hlt : k < l.length
    · obtain ⟨d, hdk⟩ := get_of_lt hlt
      obtain ⟨b, off, rfl, hb, h0, h1, h2, h3⟩ := row4 (HD.out.below hbw) hdk
      have hkn : (k : Int) < l.length := by omega
      have HDK := Lib.hid hdk
      have HO := Lib.hid hown
      have HB := Lib.hid hbw
      clear hown hbw hdk
      go_wp2_with fail
      refine wp_words (by kernel_rfl) (region_told 19 (by kernel_rfl) (by kernel_rfl) (fun W => Below wr.heap.size wr W) newer (pickD [vIs (u3), vIs (.slice (some ⟨b, off, none⟩) l.length dp), vIs (.int .i64 k), vIs (.pointer (some ⟨b, off + k * 4, none⟩)), vIs (.pointer (some ⟨b, off + k * 4, none⟩)), vIs (vi d.cell), vIs (.slice (some ⟨b, off, none⟩) l.length dp), vIs (.int .i64 k), vIs (.pointer (some ⟨b, off + k * 4, none⟩)), vIs (.pointer (some ⟨b, off + k * 4 + 1, none⟩)), vIs (vi d.day), vIs (.slice (some ⟨b, off, none⟩) l.length dp), vIs (.int .i64 k), vIs (.pointer (some ⟨b, off + k * 4, none⟩)), vIs (.pointer (some ⟨b, off + k * 4 + 2, none⟩)), vIs (.agg #[vi d.lo, vi d.hi]), vIs (.agg #[vi d.lo, vi d.hi]), vIs (rdgV d), vOne wr.heap.size 103 #[vi d.cell, vi d.day, vi d.lo, vi d.hi]]) (fun h k => newer_trans h k) (pickD_stable _ ⟨vIs_st, vIs_st, vIs_st, vIs_st, vIs_st, vIs_st, vIs_st, vIs_st, vIs_st, vIs_st, vIs_st, vIs_st, vIs_st, vIs_st, vIs_st, vIs_st, vIs_st, vIs_st, vOne_st, trivial⟩) (Below.refl _ wr).drew (Below.refl _ _) ?_ ?_)
      · refine ⟨?_, ?_, ?_, ?_, ?_, ?_, ?_, ?_, ?_, ?_, ?_, ?_, ?_, ?_, ?_, ?_, ?_, ?_, ?_, trivial⟩
        · intro a W hG hR hO hp
          have h3 := hO.slot 3 (by kernel_rfl)
          refine wp_yields (v := u3) ?_ ⟨_, rfl, rfl, Below.refl _ _, hG⟩
          simp [slotOf] at h3
          simp [execOp, go_sem, h3]
        · intro a W hG hR hO hp
          have h0 := hO.slot 0 (by kernel_rfl)
          refine wp_yields (v := .slice (some ⟨b, off, none⟩) l.length dp) ?_ ⟨_, rfl, rfl, Below.refl _ _, hG⟩
          simp [slotOf] at h0
          simp [execOp, go_sem, h0]
        · intro a W hG hR hO hp
          have h4 := hO.slot 4 (by kernel_rfl)
          refine wp_yields (v := .int .i64 k) ?_ ⟨_, rfl, rfl, Below.refl _ _, hG⟩
          simp [slotOf] at h4
          simp [execOp, go_sem, h4]
        · intro a W hG hR hO hp
          have h12 : slotOf a 12 = .slice (some ⟨b, off, none⟩) l.length dp := hp.1
          have h13 : slotOf a 13 = .int .i64 k := hp.2.1
          refine wp_yields (v := .pointer (some ⟨b, off + k * 4, none⟩)) ?_ ⟨_, rfl, rfl, Below.refl _ _, hG⟩
          simp [slotOf] at h12 h13
          simp [execOp, go_sem, h12, h13, hkn]
        · intro a W hG hR hO hp
          have h14 : slotOf a 14 = .pointer (some ⟨b, off + k * 4, none⟩) := hp.1
          refine wp_yields (v := .pointer (some ⟨b, off + k * 4, none⟩)) ?_ ⟨_, rfl, rfl, Below.refl _ _, hG⟩
          simp [slotOf] at h14
          simp [execOp, go_sem, h14]
        · intro a W hG hR hO hp
          have h15 : slotOf a 15 = .pointer (some ⟨b, off + k * 4, none⟩) := hp.1
          have c0 := keep_cell h0 hG
          refine wp_yields (v := vi d.cell) ?_ ⟨_, rfl, rfl, Below.refl _ _, hG⟩
          simp [slotOf] at h15
          simp [execOp, go_sem, h15, c0]
        · intro a W hG hR hO hp
          have h0 := hO.slot 0 (by kernel_rfl)
          refine wp_yields (v := .slice (some ⟨b, off, none⟩) l.length dp) ?_ ⟨_, rfl, rfl, Below.refl _ _, hG⟩
          simp [slotOf] at h0
          simp [execOp, go_sem, h0]
        · intro a W hG hR hO hp
          have h4 := hO.slot 4 (by kernel_rfl)
          refine wp_yields (v := .int .i64 k) ?_ ⟨_, rfl, rfl, Below.refl _ _, hG⟩
          simp [slotOf] at h4
          simp [execOp, go_sem, h4]
        · intro a W hG hR hO hp
          have h17 : slotOf a 17 = .slice (some ⟨b, off, none⟩) l.length dp := hp.1
          have h18 : slotOf a 18 = .int .i64 k := hp.2.1
          refine wp_yields (v := .pointer (some ⟨b, off + k * 4, none⟩)) ?_ ⟨_, rfl, rfl, Below.refl _ _, hG⟩
          simp [slotOf] at h17 h18
          simp [execOp, go_sem, h17, h18, hkn]
        · intro a W hG hR hO hp
          have h19 : slotOf a 19 = .pointer (some ⟨b, off + k * 4, none⟩) := hp.1
          refine wp_yields (v := .pointer (some ⟨b, off + k * 4 + 1, none⟩)) ?_ ⟨_, rfl, rfl, Below.refl _ _, hG⟩
          simp [slotOf] at h19
          simp [execOp, go_sem, h19]
        · intro a W hG hR hO hp
          have h20 : slotOf a 20 = .pointer (some ⟨b, off + k * 4 + 1, none⟩) := hp.1
          have c0 := keep_cell h1 hG
          refine wp_yields (v := vi d.day) ?_ ⟨_, rfl, rfl, Below.refl _ _, hG⟩
          simp [slotOf] at h20
          simp [execOp, go_sem, h20, c0]
        · intro a W hG hR hO hp
          have h0 := hO.slot 0 (by kernel_rfl)
          refine wp_yields (v := .slice (some ⟨b, off, none⟩) l.length dp) ?_ ⟨_, rfl, rfl, Below.refl _ _, hG⟩
          simp [slotOf] at h0
          simp [execOp, go_sem, h0]
        · intro a W hG hR hO hp
          have h4 := hO.slot 4 (by kernel_rfl)
          refine wp_yields (v := .int .i64 k) ?_ ⟨_, rfl, rfl, Below.refl _ _, hG⟩
          simp [slotOf] at h4
          simp [execOp, go_sem, h4]
        · intro a W hG hR hO hp
          have h22 : slotOf a 22 = .slice (some ⟨b, off, none⟩) l.length dp := hp.1
          have h23 : slotOf a 23 = .int .i64 k := hp.2.1
          refine wp_yields (v := .pointer (some ⟨b, off + k * 4, none⟩)) ?_ ⟨_, rfl, rfl, Below.refl _ _, hG⟩
          simp [slotOf] at h22 h23
          simp [execOp, go_sem, h22, h23, hkn]
        · intro a W hG hR hO hp
          have h24 : slotOf a 24 = .pointer (some ⟨b, off + k * 4, none⟩) := hp.1
          refine wp_yields (v := .pointer (some ⟨b, off + k * 4 + 2, none⟩)) ?_ ⟨_, rfl, rfl, Below.refl _ _, hG⟩
          simp [slotOf] at h24
          simp [execOp, go_sem, h24]
        · intro a W hG hR hO hp
          have h25 : slotOf a 25 = .pointer (some ⟨b, off + k * 4 + 2, none⟩) := hp.1
          have c0 := keep_cell h2 hG
          have c1 := keep_cell h3 hG
          refine wp_yields (v := .agg #[vi d.lo, vi d.hi]) ?_ ⟨_, rfl, rfl, Below.refl _ _, hG⟩
          simp [slotOf] at h25
          simp [execOp, go_sem, h25, c0, c1]
        · intro a W hG hR hO hp
          have h26 : slotOf a 26 = .agg #[vi d.lo, vi d.hi] := hp.1
          refine wp_enters (f := 57) (args := #[.agg #[vi d.lo, vi d.hi]]) ?_ ((to_any d.lo d.hi W).mono ?_)
          · simp [slotOf] at h26
            simp [go_sem, h26]
          · rintro e w' ⟨rfl, hb⟩
            exact ⟨_, rfl, _, rfl, rfl, hb, below_next hG hb⟩
        · intro a W hG hR hO hp
          have h16 : slotOf a 16 = vi d.cell := hp.1
          have h21 : slotOf a 21 = vi d.day := hp.2.1
          have h27 : slotOf a 27 = .agg #[vi d.lo, vi d.hi] := hp.2.2.1
          refine wp_yields (v := rdgV d) ?_ ⟨_, rfl, rfl, Below.refl _ _, hG⟩
          simp [slotOf] at h16 h21 h27
          simp [execOp, go_sem, h16, h21, h27]
        · intro a W hG hR hO hp
          have h28 : slotOf a 28 = rdgV d := hp.1
          refine wp_makes (v := .slice (some ⟨W.heap.size, 0, none⟩) 1 1) (W' := W.alloc (.cells #[vi d.cell, vi d.day, vi d.lo, vi d.hi] 103)) ?_ ⟨_, rfl, ⟨_, rfl, hG.size, Whole.made _ _ _⟩, (Below.refl _ _).alloc (Nat.le_refl _) _, hG.alloc hG.size _⟩
          simp [slotOf] at h28
          simp [execOp, go_sem, h28]
      · intro W hG hR
        rintro _ rfl _ rfl _ rfl _ rfl _ rfl _ rfl _ rfl _ rfl _ rfl _ rfl _ rfl _ rfl _ rfl _ rfl _ rfl _ rfl _ rfl _ rfl _ ⟨nb1, rfl, hnb1, hW1⟩
        change wpList _ _ _ _ _ _
        simp only [Act.put, List.setIfInBounds_toArray, List.set_cons_zero, List.set_cons_succ, List.drop_succ_cons, List.drop_zero]
        have HO2 := Lib.hid (own_below HO.out hG)
        have HNW := Lib.hid (World.news_of_block hW1)
        have HB2 := Lib.hid (below_next HB.out hG)
        have hbs := (below_next HB.out hG).size
        obtain ⟨hi0, hz0, hz1, hz2⟩ := HI.out
        clear hG hR hnb1 hW1 h0 h1 h2 h3
        go_wp2_with (at_builtin; go_loud ((refine wpList_append_lies _ rfl (.tmp 11) (.tmp 29) 84 rfl w.heap.size 103 i103 (.agg #[.int .i64 0, .int .i64 0, .int .i64 0, .int .i64 0]) 4 32 Try.underlying84 hi0 hz0 hz1 hz2 rfl (by omega) _ k _ rfl HO2.out ⟨nb1, 0, none⟩ 1 1 (rdgL d) rfl rfl HNW.out (by simp [Value.oneCell']) (by omega) (by unfold maxLen; omega) (by omega) hbs W.heap.size rfl ?_); intro gg cp2 w2 hown2 hgrow2 hat2 hlt2; rw [← take_flat rdgL l k d HDK.out] at hown2; have HO3 := Lib.hid hown2; have HB3 := Lib.hid ((HB2.out).grown hgrow2 hbs (own_ge HO2.out)); clear hown2 hgrow2 hat2 hlt2 hi0 hz0 hz1 hz2 hbs))
        go_roundw
        case rel => exact ⟨k + 1, by omega, by go_num, HB3.out, HO3.out⟩
        case measure => simp [intOf]; omega
    · have hkn : k = l.length := by omega
      subst hkn
      rw [List.take_of_length_le (Nat.le_refl _)] at hown
      obtain ⟨A2, c2, rfl⟩ := own_form hown
      have HF := Lib.hid (And.intro hbw hown)
      clear hbw hown
      go_wp2_with fail
      go_ret
      exact ⟨⟨_, rfl, A2, c2, rfl, row_of_own (by omega) (fun _ => rfl) HF.out.2⟩, HF.out.1⟩

/-! ## The test of all readings -/
def rdgB (n m : Nat) (x : Rdg) : Bool := inB x.cell 0 ((n : Int) - 1) && inB x.day 0 ((m : Int) - 1) && upB x.lo x.hi 100000
set_option maxHeartbeats 400000 in
theorem checkReading_any (x : Rdg) (gb db : Nat) (A : Option Addr) (n cp : Nat) (D : Option Addr) (m dp : Nat) (w : World) (hn : n ≤ 1000) (hm : m ≤ 1000)
    (hg : w.cell? ⟨gb, 0, none⟩ = some (.slice A n cp)) (hd : w.cell? ⟨db, 0, none⟩ = some (.slice D m dp)) :
    Calls Try.prog 72 #[rdgV x, .pointer (some ⟨gb, 0, none⟩), .pointer (some ⟨db, 0, none⟩)] w fun e w' => e = .returned (.bool (rdgB n m x)) ∧ Below w.heap.size w w' := by
  obtain ⟨cell, day, lo, hi⟩ := x
  have hlt := World.block_lt_of_cell? w _ hg
  have hlt2 := World.block_lt_of_cell? w _ hd
  dsimp only at hlt hlt2
  unfold rdgB
  dsimp only
  cases h1 : inB cell 0 ((n : Int) - 1)
  case' true => cases h2 : inB day 0 ((m : Int) - 1)
  case' true.true => cases h3 : upB lo hi 100000
  all_goals
    (go_enter Try.func72, Try.ntmps72
     go_wp2_with (first | (go_at_call 64; refine (within_any _ _ _ _).mono ?_; rintro e w' ⟨rfl, rfl⟩) | (go_at_call 65; refine (up_any _ _ _ _).mono ?_; rintro e w' ⟨rfl, rfl⟩))
     go_ret
     refine ⟨by simp, ?_⟩
     first | exact (Below.refl _ _).alloc (Nat.le_refl _) _ | exact ((Below.refl _ _).alloc (Nat.le_refl _) _).alloc (by simp) _)
set_option maxHeartbeats 400000 in
theorem notRdg_any (c : Rdg) (p : Rdg → Bool) (rb : Nat) (gb db : Nat) (w : World)
    (hr : w.cell? ⟨rb, 0, none⟩ = some (.func (.func 72) #[] #[.pointer (some ⟨gb, 0, none⟩), .pointer (some ⟨db, 0, none⟩)]))
    (hf : ∀ W, newer w W → Calls Try.prog 72 #[rdgV c, .pointer (some ⟨gb, 0, none⟩), .pointer (some ⟨db, 0, none⟩)] W fun e w' => e = .returned (.bool (p c)) ∧ Below W.heap.size W w') :
    Calls Try.prog 94 #[rdgV c, .pointer (some ⟨rb, 0, none⟩)] w fun e w' => e = .returned (.bool (!p c)) ∧ Below w.heap.size w w' := by
  have hlt := World.block_lt_of_cell? w _ hr
  dsimp only at hlt
  have HF := Lib.hid hf
  clear hf
  go_enter Try.func94, Try.ntmps94
  go_wp2_with (go_at_call 72; refine (HF.out _ (newer_allocH _ _)).mono ?_; rintro e w' ⟨rfl, hb⟩)
  go_ret
  exact ⟨rfl, below_next (newer_allocH _ _) hb⟩
set_option maxHeartbeats 400000 in
theorem idxRdg_any (l : List Rdg) (p : Rdg → Bool) (cp rb : Nat) (A : Option Addr) (w : World) (hn : l.length ≤ 1000) (hrow : Row rdgL 4 w w.heap.size A l)
    (hf : ∀ c W, Below w.heap.size w W → Calls Try.prog 94 #[rdgV c, .pointer (some ⟨rb, 0, none⟩)] W fun e w' => e = .returned (.bool (p c)) ∧ Below W.heap.size W w') :
    Calls Try.prog 102 #[.slice A l.length cp, .func (.func 94) #[] #[.pointer (some ⟨rb, 0, none⟩)]] w fun e w' => e = .returned (.int .i64 (idx p l)) ∧ Below w.heap.size w w' := by
  have HF := Lib.hid hf
  clear hf
  obtain ⟨n, hnl⟩ : ∃ n, n = l.length := ⟨_, rfl⟩
  rw [← hnl] at hn ⊢
  have HN := Lib.hid hnl
  clear hnl
  go_enter Try.func102, Try.ntmps102
  go_wp2
  go_loopw [4, 5, 8] (fun _ _ i wr => ∃ k : Nat, k ≤ n ∧ i = .int .i64 k ∧ Below w.heap.size w wr ∧ early p l k) (fun _ _ i _ => n - (intOf i).toNat)
  case atStart => exact ⟨0, Nat.zero_le _, rfl, Below.refl _ _, early_zero _ _⟩
  case round =>
    obtain ⟨k, hk, rfl, hbw, he⟩ := hrel
    have HE := Lib.hid he
    clear he
    by_cases hlt : k < n
    · obtain ⟨c, hc⟩ := get_of_lt (l := l) (k := k) (by have := HN.out; omega)
      obtain ⟨b, off, rfl, hb, h0, h1, h2, h3⟩ := row4 (hrow.below hbw) hc
      have HC := Lib.hid hc
      clear hc
      cases hp : p c
      · go_wp2_with (go_at_call 94; refine (HF.out c _ hbw).mono ?_; rintro e w' ⟨rfl, hb2⟩)
        go_roundw
        case rel => exact ⟨k + 1, by omega, by go_num, below_next hbw hb2, early_succ HE.out HC.out hp⟩
        case measure => simp [intOf]; omega
      · go_wp2_with (go_at_call 94; refine (HF.out c _ hbw).mono ?_; rintro e w' ⟨rfl, hb2⟩)
        go_ret
        exact ⟨ret_int (idx_here p l k c HC.out hp HE.out).symm, below_next hbw hb2⟩
    · go_wp2_with fail
      go_ret
      have hkn : k = l.length := by have := HN.out; omega
      exact ⟨ret_int (idx_none p l (hkn ▸ HE.out)).symm, hbw⟩

set_option maxHeartbeats 400000 in
theorem containsRdg_any (l : List Rdg) (p : Rdg → Bool) (cp rb : Nat) (A : Option Addr) (w : World) (hn : l.length ≤ 1000) (hrow : Row rdgL 4 w w.heap.size A l)
    (hf : ∀ c W, Below w.heap.size w W → Calls Try.prog 94 #[rdgV c, .pointer (some ⟨rb, 0, none⟩)] W fun e w' => e = .returned (.bool (p c)) ∧ Below W.heap.size W w') :
    Calls Try.prog 93 #[.slice A l.length cp, .func (.func 94) #[] #[.pointer (some ⟨rb, 0, none⟩)]] w fun e w' => e = .returned (.bool (decide (0 ≤ idx p l))) ∧ Below w.heap.size w w' := by
  have HF := Lib.hid hf
  clear hf
  go_enter Try.func93, Try.ntmps93
  go_wp2_with (go_at_call 102; refine (idxRdg_any l p cp rb A _ hn hrow HF.out).mono ?_; rintro e w' ⟨rfl, hb2⟩)
  go_ret
  exact ⟨rfl, hb2⟩
set_option maxHeartbeats 400000 in
theorem allRdg_any (l : List Rdg) (p : Rdg → Bool) (cp : Nat) (A : Option Addr) (gb db : Nat) (w : World) (hn : l.length ≤ 1000) (hrow : Row rdgL 4 w w.heap.size A l)
    (hf : ∀ c W, newer w W → Calls Try.prog 72 #[rdgV c, .pointer (some ⟨gb, 0, none⟩), .pointer (some ⟨db, 0, none⟩)] W fun e w' => e = .returned (.bool (p c)) ∧ Below W.heap.size W w') :
    Calls Try.prog 73 #[.slice A l.length cp, .func (.func 72) #[] #[.pointer (some ⟨gb, 0, none⟩), .pointer (some ⟨db, 0, none⟩)]] w fun e w' => e = .returned (.bool (l.all p)) ∧ Below w.heap.size w w' := by
  have HF := Lib.hid hf
  clear hf
  go_enter Try.func73, Try.ntmps73
  go_wp2_with (go_at_call 93; refine (containsRdg_any l (fun c => !p c) cp _ A _ hn ?hrow ?hf).mono ?_; rotate_left 2; rintro e w' ⟨rfl, hb2⟩)
  case hrow => exact (hrow.below (newer_allocH _ _)).more (by simp)
  case hf =>
    intro c W hbW
    refine notRdg_any c p _ gb db W ?_ (fun W' h => HF.out c W' (newer_trans (newer_trans (newer_allocH _ _) hbW) h))
    rw [hbW.cell (p := ⟨w.heap.size, 0, none⟩) (by simp)]; simp
  go_ret
  exact ⟨ret_bool (idx_all _ _), below_next (newer_allocH _ _) hb2⟩

/-! ## Is all known but the soak? -/
theorem one_any (lo hi : Int) (w : World) : Calls Try.prog 95 #[.agg #[vi lo, vi hi]] w fun e w' => e = .returned (.bool (lo == hi)) ∧ Below w.heap.size w w' := by
  go_enter Try.func95, Try.ntmps95
  go_wp2_with fail
  go_ret
  exact ⟨rfl, newer_allocH _ _⟩
theorem oneCell_any (c : Cell) (tb : Nat) (w : World) (ht : w.cell? ⟨tb, 0, none⟩ = some (.func (.func 95) #[] #[])) :
    Calls Try.prog 96 #[cellV c, .pointer (some ⟨tb, 0, none⟩)] w fun e w' => e = .returned (.bool (c.lo == c.hi)) ∧ Below w.heap.size w w' := by
  have hlt := World.block_lt_of_cell? w _ ht
  dsimp only at hlt
  have ht' := fun o => cell_alloc ht o
  go_enter Try.func96, Try.ntmps96
  go_wp2_with (go_at_call 95; refine (one_any _ _ _).mono ?_; rintro e w' ⟨rfl, hb⟩)
  go_ret
  exact ⟨rfl, below_next (newer_allocH _ _) hb⟩
theorem oneDay_any (c : Day) (tb : Nat) (w : World) (ht : w.cell? ⟨tb, 0, none⟩ = some (.func (.func 95) #[] #[])) :
    Calls Try.prog 97 #[dayV c, .pointer (some ⟨tb, 0, none⟩)] w fun e w' => e = .returned (.bool (c.lo == c.hi)) ∧ Below w.heap.size w w' := by
  have hlt := World.block_lt_of_cell? w _ ht
  dsimp only at hlt
  have ht' := fun o => cell_alloc ht o
  go_enter Try.func97, Try.ntmps97
  go_wp2_with (go_at_call 95; refine (one_any _ _ _).mono ?_; rintro e w' ⟨rfl, hb⟩)
  go_ret
  exact ⟨rfl, below_next (newer_allocH _ _) hb⟩
set_option maxHeartbeats 400000 in
theorem notCellK_any (c : Cell) (p : Cell → Bool) (rb : Nat) (tb : Nat) (w : World)
    (hr : w.cell? ⟨rb, 0, none⟩ = some (.func (.func 96) #[] #[.pointer (some ⟨tb, 0, none⟩)]))
    (hf : ∀ W, newer w W → Calls Try.prog 96 #[cellV c, .pointer (some ⟨tb, 0, none⟩)] W fun e w' => e = .returned (.bool (p c)) ∧ Below W.heap.size W w') :
    Calls Try.prog 90 #[cellV c, .pointer (some ⟨rb, 0, none⟩)] w fun e w' => e = .returned (.bool (!p c)) ∧ Below w.heap.size w w' := by
  have hlt := World.block_lt_of_cell? w _ hr
  dsimp only at hlt
  have HF := Lib.hid hf
  clear hf
  go_enter Try.func90, Try.ntmps90
  go_wp2_with (go_at_call 96; refine (HF.out _ (newer_allocH _ _)).mono ?_; rintro e w' ⟨rfl, hb⟩)
  go_ret
  exact ⟨rfl, below_next (newer_allocH _ _) hb⟩
set_option maxHeartbeats 400000 in
theorem allCellK_any (l : List Cell) (p : Cell → Bool) (cp : Nat) (A : Option Addr) (tb : Nat) (w : World) (hn : l.length ≤ 1000) (hrow : Row cellL 7 w w.heap.size A l)
    (hf : ∀ c W, newer w W → Calls Try.prog 96 #[cellV c, .pointer (some ⟨tb, 0, none⟩)] W fun e w' => e = .returned (.bool (p c)) ∧ Below W.heap.size W w') :
    Calls Try.prog 66 #[.slice A l.length cp, .func (.func 96) #[] #[.pointer (some ⟨tb, 0, none⟩)]] w fun e w' => e = .returned (.bool (l.all p)) ∧ Below w.heap.size w w' := by
  have HF := Lib.hid hf
  clear hf
  go_enter Try.func66, Try.ntmps66
  go_wp2_with (go_at_call 89; refine (containsCell_any l (fun c => !p c) cp _ A _ hn ?hrow ?hf).mono ?_; rotate_left 2; rintro e w' ⟨rfl, hb2⟩)
  case hrow => exact (hrow.below (newer_allocH _ _)).more (by simp)
  case hf =>
    intro c W hbW
    refine notCellK_any c p _ tb W ?_ (fun W' h => HF.out c W' (newer_trans (newer_trans (newer_allocH _ _) hbW) h))
    rw [hbW.cell (p := ⟨w.heap.size, 0, none⟩) (by simp)]; simp
  go_ret
  exact ⟨ret_bool (idx_all _ _), below_next (newer_allocH _ _) hb2⟩

set_option maxHeartbeats 400000 in
theorem notDayK_any (c : Day) (p : Day → Bool) (rb : Nat) (tb : Nat) (w : World)
    (hr : w.cell? ⟨rb, 0, none⟩ = some (.func (.func 97) #[] #[.pointer (some ⟨tb, 0, none⟩)]))
    (hf : ∀ W, newer w W → Calls Try.prog 97 #[dayV c, .pointer (some ⟨tb, 0, none⟩)] W fun e w' => e = .returned (.bool (p c)) ∧ Below W.heap.size W w') :
    Calls Try.prog 99 #[dayV c, .pointer (some ⟨rb, 0, none⟩)] w fun e w' => e = .returned (.bool (!p c)) ∧ Below w.heap.size w w' := by
  have hlt := World.block_lt_of_cell? w _ hr
  dsimp only at hlt
  have HF := Lib.hid hf
  clear hf
  go_enter Try.func99, Try.ntmps99
  go_wp2_with (go_at_call 97; refine (HF.out _ (newer_allocH _ _)).mono ?_; rintro e w' ⟨rfl, hb⟩)
  go_ret
  exact ⟨rfl, below_next (newer_allocH _ _) hb⟩
set_option maxHeartbeats 400000 in
theorem allDayK_any (l : List Day) (p : Day → Bool) (cp : Nat) (A : Option Addr) (tb : Nat) (w : World) (hn : l.length ≤ 1000) (hrow : Row dayL 3 w w.heap.size A l)
    (hf : ∀ c W, newer w W → Calls Try.prog 97 #[dayV c, .pointer (some ⟨tb, 0, none⟩)] W fun e w' => e = .returned (.bool (p c)) ∧ Below W.heap.size W w') :
    Calls Try.prog 82 #[.slice A l.length cp, .func (.func 97) #[] #[.pointer (some ⟨tb, 0, none⟩)]] w fun e w' => e = .returned (.bool (l.all p)) ∧ Below w.heap.size w w' := by
  have HF := Lib.hid hf
  clear hf
  go_enter Try.func82, Try.ntmps82
  go_wp2_with (go_at_call 98; refine (containsDay_any l (fun c => !p c) cp _ A _ hn ?hrow ?hf).mono ?_; rotate_left 2; rintro e w' ⟨rfl, hb2⟩)
  case hrow => exact (hrow.below (newer_allocH _ _)).more (by simp)
  case hf =>
    intro c W hbW
    refine notDayK_any c p _ tb W ?_ (fun W' h => HF.out c W' (newer_trans (newer_trans (newer_allocH _ _) hbW) h))
    rw [hbW.cell (p := ⟨w.heap.size, 0, none⟩) (by simp)]; simp
  go_ret
  exact ⟨ret_bool (idx_all _ _), below_next (newer_allocH _ _) hb2⟩

def knownB (g : Gnd) (days : List Day) : Bool := (g.slo == g.shi) && g.cells.all (fun c => c.lo == c.hi) && days.all fun d => d.lo == d.hi
set_option maxRecDepth 100000 in
set_option maxHeartbeats 1000000 in
theorem known_any (g : Gnd) (A : Option Addr) (ap : Nat) (days : List Day) (D : Option Addr) (dp : Nat) (w : World) (hn : g.cells.length ≤ 1000) (hm : days.length ≤ 1000) (hc : Row cellL 7 w w.heap.size A g.cells) (hd : Row dayL 3 w w.heap.size D days) :
    Calls Try.prog 74 #[gndV A ap g, .slice D days.length dp] w fun e w' => e = .returned (.bool (knownB g days)) ∧ Below w.heap.size w w' := by
  have HC := Lib.hid hc
  have HD := Lib.hid hd
  clear hc hd
  unfold knownB
  obtain ⟨b1, h1⟩ : ∃ b1, b1 = (g.slo == g.shi) := ⟨_, rfl⟩
  obtain ⟨b2, h2⟩ : ∃ b2, b2 = g.cells.all (fun c => c.lo == c.hi) := ⟨_, rfl⟩
  obtain ⟨b3, h3⟩ : ∃ b3, b3 = days.all (fun d => d.lo == d.hi) := ⟨_, rfl⟩
  have H1 := Lib.hid h1
  have H2 := Lib.hid h2
  have H3 := Lib.hid h3
  rw [← h1, ← h2, ← h3]
  clear h1 h2 h3
  cases b1
  · go_enter Try.func74, Try.ntmps74
    go_wp2_with fail
    refine (one_any _ _ _).mono ?_
    rw [← H1.out]
    rintro e w1 ⟨rfl, hb1⟩
    have HB := Lib.hid (below_next (below_next (newer_allocH _ _) (newer_allocH _ _)) hb1)
    clear hb1
    go_wp2_with fail
    go_ret
    exact ⟨rfl, HB.out⟩
  · obtain ⟨tb, htb⟩ : ∃ tb, tb = w.heap.size + 1 := ⟨_, rfl⟩
    have HW : Hid (∀ w1, newer ((w.alloc (.cells (gndC A ap g) 38)).alloc (.cells #[.func (.func 95) #[] #[]] 150)) w1 → newer w w1 ∧ Whole w1 w.heap.size 38 (gndC A ap g) ∧ Whole w1 tb 150 #[.func (.func 95) #[] #[]]) := by
      refine Lib.hid fun w1 hb => ⟨newer_trans (newer_trans (newer_allocH _ _) (newer_allocH _ _)) hb, ((Whole.made w 38 (gndC A ap g)).alloc _).below hb (by simp; omega), ?_⟩
      have h := (Whole.made (w.alloc (.cells (gndC A ap g) 38)) 150 #[.func (.func 95) #[] #[]]).below hb (by simp)
      rw [htb]
      simpa using h
    have HTB := Lib.hid htb
    cases b2
    · go_enter Try.func74, Try.ntmps74
      go_wp2_with fail
      refine (one_any _ _ _).mono ?_
      rw [← H1.out]
      rintro e w1 ⟨rfl, hb1⟩
      obtain ⟨hn1, hg1, ht1⟩ := HW.out w1 hb1
      rw [← HTB.out]
      have c0 := hg1.at 0 (v := .slice A g.cells.length ap) rfl
      have HCK := Lib.hid (allCellK_any g.cells (fun c => c.lo == c.hi) ap A tb w1 hn ((HC.out.below hn1).more hn1.size) (fun c W hW => oneCell_any c tb W ((ht1.below hW ht1.lt).at 0 rfl)))
      rw [← H2.out] at HCK
      have HN := Lib.hid hn1
      clear hn1 hg1 ht1 htb hb1
      go_wp2_with fail
      refine (HCK.out).mono ?_
      rintro e w2 ⟨rfl, hb2⟩
      have HB := Lib.hid (newer_trans HN.out hb2)
      clear hb2
      go_wp2_with fail
      go_ret
      exact ⟨rfl, HB.out⟩
    · cases b3
      all_goals
        go_enter Try.func74, Try.ntmps74
        go_wp2_with fail
        refine (one_any _ _ _).mono ?_
        rw [← H1.out]
        rintro e w1 ⟨rfl, hb1⟩
        obtain ⟨hn1, hg1, ht1⟩ := HW.out w1 hb1
        rw [← HTB.out]
        have c0 := hg1.at 0 (v := .slice A g.cells.length ap) rfl
        have HCK := Lib.hid (allCellK_any g.cells (fun c => c.lo == c.hi) ap A tb w1 hn ((HC.out.below hn1).more hn1.size) (fun c W hW => oneCell_any c tb W ((ht1.below hW ht1.lt).at 0 rfl)))
        rw [← H2.out] at HCK
        have HN := Lib.hid (And.intro hn1 ht1)
        clear hn1 hg1 ht1 htb hb1
        go_wp2_with fail
        refine (HCK.out).mono ?_
        rintro e w2 ⟨rfl, hb2⟩
        have hn2 := newer_trans HN.out.1 hb2
        have ht2 := HN.out.2.below hb2 HN.out.2.lt
        have HDK := Lib.hid (allDayK_any days (fun c => c.lo == c.hi) dp D tb w2 hm ((HD.out.below hn2).more hn2.size) (fun c W hW => oneDay_any c tb W ((ht2.below hW ht2.lt).at 0 rfl)))
        rw [← H3.out] at HDK
        have HN2 := Lib.hid hn2
        clear hn2 ht2 hb2 HN HCK
        go_wp2_with fail
        refine (HDK.out).mono ?_
        rintro e w3 ⟨rfl, hb3⟩
        have HB := Lib.hid (newer_trans HN2.out hb3)
        clear hb3
        go_wp2_with fail
        go_ret
        exact ⟨rfl, HB.out⟩
end Go.Proofs.Yteonkhohloabfaa
