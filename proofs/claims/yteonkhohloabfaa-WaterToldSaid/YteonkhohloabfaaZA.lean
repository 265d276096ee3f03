/- Learn, its parts: readings as arguments, maps, the way run, the searches. -/
import Derived.Test.YteonkhohloabfaaAU
import Derived.Below
import Derived.Maps.Own
import Derived.Maps.OwnOps
import Derived.Maps.RangeRun
import Derived.Test.YteonkhohloabfaaL
import Derived.Test.YteonkhohloabfaaD
import Derived.Maps.RangeWalk

/- What Learn and its law need of a ground with days, and the greater and the lesser one of two numbers. -/
namespace Go.Proofs.Yteonkhohloabfaa
open Go.RowKit

/-- What a law on a ground with days carries. -/
structure Lh (w : World) (g : Gnd) (A : Option Addr) (cp : Nat) (days : List Day) (D : Option Addr) (W : World) : Prop where
  below : Below w.heap.size w W
  gb : Whole W w.heap.size 26 (gndC A cp g)
  hc : Row cellL 7 W W.heap.size A g.cells
  hd : Row dayL 3 W W.heap.size D days
section
variable {w W W' : World} {g : Gnd} {A : Option Addr} {cp : Nat} {days : List Day} {D : Option Addr}
theorem Lh.next (h : Lh w g A cp days D W) (hb : newer W W') : Lh w g A cp days D W' :=
  ⟨below_next h.below hb, h.gb.below hb h.gb.lt, (h.hc.below hb).more hb.size, (h.hd.below hb).more hb.size⟩
theorem Lh.made (hc : Row cellL 7 w w.heap.size A g.cells) (hd : Row dayL 3 w w.heap.size D days) : Lh w g A cp days D (w.alloc (.cells (gndC A cp g) 26)) :=
  ⟨(Below.refl _ _).alloc (Nat.le_refl _) _, Whole.made _ _ _, row_alloc hc _, row_alloc hd _⟩
theorem newer_allocH (W : World) (o : Obj) : newer W (W.alloc o) := (Below.refl _ _).alloc (Nat.le_refl _) _
theorem Lh.alloc (h : Lh w g A cp days D W) (o : Obj) : Lh w g A cp days D (W.alloc o) := h.next (newer_allocH W o)
theorem Lh.lt (h : Lh w g A cp days D W) : w.heap.size < W.heap.size := h.gb.lt
end
/-- The greater one of two numbers. -/
def mxI (a b : Int) : Int := if a < b then b else a
/-- The lesser one of two numbers. -/
def mnI (a b : Int) : Int := if b < a then b else a
theorem mnI_le (a b : Int) : mnI a b ≤ a ∧ mnI a b ≤ b ∧ (mnI a b = a ∨ mnI a b = b) := by unfold mnI; split <;> omega
theorem mxI_ge (a b : Int) : a ≤ mxI a b ∧ b ≤ mxI a b ∧ (mxI a b = a ∨ mxI a b = b) := by unfold mxI; split <;> omega
end Go.Proofs.Yteonkhohloabfaa

/- Readings: opened as an argument, handed to the program, and tested by Learn. -/
namespace Go.Proofs.Yteonkhohloabfaa
open Go.ChangeShapes Go.WideShapes Go.ChangeAt Go.RowKit Go.Deep

structure Rdg where
  cell : Int
  day : Int
  lo : Int
  hi : Int
abbrev rdgL (x : Rdg) : List Value := [vi x.cell, vi x.day, vi x.lo, vi x.hi]
abbrev rdgV (x : Rdg) : Value := .agg #[vi x.cell, vi x.day, vi x.lo, vi x.hi]
theorem Try.cells92 : Try.prog.cellsOf 92 = 4 := by kernel_rfl
section
variable {H : Type} {enc : TypeId × Value → H} {w : World} {base : Nat} {spare : Nat → Bool} {held : Bool} {fuel : Nat} {cs : List Value} {x : DataW H × List MemPlace}
theorem rdg_cells (h : DataW.trod enc Try.prog w base spare held fuel 92 cs = some x) : ∃ d : Rdg, cs = rdgL d := by
  obtain ⟨xs, m, _, _, hlen, hxl, hg⟩ := DataW.trod_struct Try.underlying92 h
  rw [Try.cells92] at hlen
  obtain ⟨c0, c1, c2, c3, rfl⟩ := len4 hlen
  obtain ⟨y0, y1, y2, rfl⟩ := len3 (show xs.length = 3 from hxl)
  have h0 := hg 0 _ rfl
  have h1 := hg 1 _ rfl
  have h2 := hg 2 _ rfl
  simp [Try.cells3, Try.cells24] at h0 h1 h2
  obtain ⟨a, ha, _⟩ := DataW.trod_int Try.underlying3 h0
  obtain ⟨b, hb, _⟩ := DataW.trod_int Try.underlying3 h1
  obtain ⟨c, d, hcd⟩ := range_cells h2
  injection ha with ha
  injection hb with hb
  injection hcd with hc hd
  injection hd with hd
  exact ⟨⟨a, b, c, d⟩, by rw [ha, hb, hc, hd]⟩
theorem readings_open (h : DataW.trod enc Try.prog w base spare held fuel 81 cs = some x) : ∃ (D : Option Addr) (l : List Rdg) (dp : Nat), cs = [.slice D l.length dp] ∧ l.length ≤ maxLen ∧ Row rdgL 4 w w.heap.size D l :=
  open_row (ec := rdgL) Try.underlying81 Try.cells92 (fun _ => rfl) (by omega) rdg_cells h
end
theorem row4 {w : World} {B : Nat} {A : Option Addr} {l : List Rdg} (h : Row rdgL 4 w B A l) {k : Nat} {c : Rdg} (hk : l[k]? = some c) :
    ∃ b off, A = some ⟨b, off, none⟩ ∧ b < B ∧ w.cell? ⟨b, off + k * 4, none⟩ = some (.int .i64 c.cell) ∧ w.cell? ⟨b, off + k * 4 + 1, none⟩ = some (.int .i64 c.day) ∧ w.cell? ⟨b, off + k * 4 + 2, none⟩ = some (.int .i64 c.lo) ∧ w.cell? ⟨b, off + k * 4 + 3, none⟩ = some (.int .i64 c.hi) := by
  obtain ⟨b, off, e, hb, hc⟩ := h (ne_nil_of_get hk)
  exact ⟨b, off, e, hb, hc k c hk 0 _ rfl, hc k c hk 1 _ rfl, hc k c hk 2 _ rfl, hc k c hk 3 _ rfl⟩

theorem Try.info103 : (Try.prog.info? 103).map (fun i => (i.zero, i.size, i.bytes)) = some (some (.agg #[.int .i64 0, .int .i64 0, .int .i64 0, .int .i64 0]), 4, 32) := by kernel_rfl
/-- Readings made since. -/
def vRg (l : List Rdg) (v : Value) (W : World) : Prop := ∃ A c, v = .slice A l.length c ∧ Row rdgL 4 W W.heap.size A l
theorem vRg_st {l : List Rdg} : ∀ v W W', vRg l v W → newer W W' → vRg l v W' := fun _ _ _ ⟨A, c, h1, h2⟩ hb => ⟨A, c, h1, (h2.below hb).more hb.size⟩
set_option maxRecDepth 100000 in
set_option maxHeartbeats 2000000 in
theorem lawReadings (l : List Rdg) (D : Option Addr) (dp : Nat) (w : World) (hm : l.length ≤ 1000) (hd : Row rdgL 4 w w.heap.size D l) :
    Calls Try.prog 43 #[.slice D l.length dp] w fun e w' => (∃ v, e = .returned v ∧ vRg l v w') ∧ Below w.heap.size w w' := by
  obtain ⟨i103, hi0, hz0, hz1, hz2⟩ := info_parts Try.info103
  have HI := Lib.hid (And.intro hi0 (And.intro hz0 (And.intro hz1 hz2)))
  clear hi0 hz0 hz1 hz2
  have HD := Lib.hid hd
  clear hd
  go_enter Try.func43, Try.ntmps43
  go_wp2_with fail
  go_loopw [3, 4] (fun s3 s4 wr => ∃ k : Nat, k ≤ l.length ∧ s4 = .int .i64 k ∧ Below w.heap.size w wr ∧ wr.ownsRow w.heap.size 103 4 s3 k ((l.take k).flatMap rdgL)) (fun _ s4 _ => l.length - (intOf s4).toNat)
  case atStart => exact ⟨0, Nat.zero_le _, rfl, Below.refl _ _, by simp, .inl ⟨rfl, rfl⟩⟩
  case round =>
    obtain ⟨k, hk, rfl, hbw, hown⟩ := hrel
    by_cases hlt : k < l.length
    · obtain ⟨d, hdk⟩ := get_of_lt hlt
      obtain ⟨b, off, rfl, hb, h0, h1, h2, h3⟩ := row4 (HD.out.below hbw) hdk
      have hkn : (k : Int) < l.length := by omega
      have HDK := Lib.hid hdk
      have HO := Lib.hid hown
      have HB := Lib.hid hbw
      clear hown hbw hdk
      go_wp2_with fail
      refine wp_words (by kernel_rfl) (region_told 19 (by kernel_rfl) (by kernel_rfl) (fun W => Below wr.heap.size wr W) newer (pickD [vIs (u3), vIs (.slice (some ⟨b, off, none⟩) l.length dp), vIs (.int .i64 k), vIs (.pointer (some ⟨b, off + k * 4, none⟩)), vIs (.pointer (some ⟨b, off + k * 4, none⟩)), vIs (vi d.cell), vIs (.slice (some ⟨b, off, none⟩) l.length dp), vIs (.int .i64 k), vIs (.pointer (some ⟨b, off + k * 4, none⟩)), vIs (.pointer (some ⟨b, off + k * 4 + 1, none⟩)), vIs (vi d.day), vIs (.slice (some ⟨b, off, none⟩) l.length dp), vIs (.int .i64 k), vIs (.pointer (some ⟨b, off + k * 4, none⟩)), vIs (.pointer (some ⟨b, off + k * 4 + 2, none⟩)), vIs (.agg #[vi d.lo, vi d.hi]), vIs (.agg #[vi d.lo, vi d.hi]), vIs (rdgV d), vOne wr.heap.size 103 #[vi d.cell, vi d.day, vi d.lo, vi d.hi]]) (fun h k => newer_trans h k) (pickD_stable _ ⟨vIs_st, vIs_st, vIs_st, vIs_st, vIs_st, vIs_st, vIs_st, vIs_st, vIs_st, vIs_st, vIs_st, vIs_st, vIs_st, vIs_st, vIs_st, vIs_st, vIs_st, vIs_st, vOne_st, trivial⟩) (Below.refl _ wr).drew (Below.refl _ _) ?_ ?_)
      · refine ⟨?_, ?_, ?_, ?_, ?_, ?_, ?_, ?_, ?_, ?_, ?_, ?_, ?_, ?_, ?_, ?_, ?_, ?_, ?_, trivial⟩
        · intro a W hG hR hO hp
          have h3 := hO.slot 3 (by kernel_rfl)
          refine wp_yields (v := u3) ?_ ⟨_, rfl, rfl, Below.refl _ _, hG⟩
          simp [slotOf] at h3
          simp [execOp, go_sem, h3]
        · intro a W hG hR hO hp
          have h0 := hO.slot 0 (by kernel_rfl)
          refine wp_yields (v := .slice (some ⟨b, off, none⟩) l.length dp) ?_ ⟨_, rfl, rfl, Below.refl _ _, hG⟩
          simp [slotOf] at h0
          simp [execOp, go_sem, h0]
        · intro a W hG hR hO hp
          have h4 := hO.slot 4 (by kernel_rfl)
          refine wp_yields (v := .int .i64 k) ?_ ⟨_, rfl, rfl, Below.refl _ _, hG⟩
          simp [slotOf] at h4
          simp [execOp, go_sem, h4]
        · intro a W hG hR hO hp
          have h12 : slotOf a 12 = .slice (some ⟨b, off, none⟩) l.length dp := hp.1
          have h13 : slotOf a 13 = .int .i64 k := hp.2.1
          refine wp_yields (v := .pointer (some ⟨b, off + k * 4, none⟩)) ?_ ⟨_, rfl, rfl, Below.refl _ _, hG⟩
          simp [slotOf] at h12 h13
          simp [execOp, go_sem, h12, h13, hkn]
        · intro a W hG hR hO hp
          have h14 : slotOf a 14 = .pointer (some ⟨b, off + k * 4, none⟩) := hp.1
          refine wp_yields (v := .pointer (some ⟨b, off + k * 4, none⟩)) ?_ ⟨_, rfl, rfl, Below.refl _ _, hG⟩
          simp [slotOf] at h14
          simp [execOp, go_sem, h14]
        · intro a W hG hR hO hp
          have h15 : slotOf a 15 = .pointer (some ⟨b, off + k * 4, none⟩) := hp.1
          have c0 := keep_cell h0 hG
          refine wp_yields (v := vi d.cell) ?_ ⟨_, rfl, rfl, Below.refl _ _, hG⟩
          simp [slotOf] at h15
          simp [execOp, go_sem, h15, c0]
        · intro a W hG hR hO hp
          have h0 := hO.slot 0 (by kernel_rfl)
          refine wp_yields (v := .slice (some ⟨b, off, none⟩) l.length dp) ?_ ⟨_, rfl, rfl, Below.refl _ _, hG⟩
          simp [slotOf] at h0
          simp [execOp, go_sem, h0]
        · intro a W hG hR hO hp
          have h4 := hO.slot 4 (by kernel_rfl)
          refine wp_yields (v := .int .i64 k) ?_ ⟨_, rfl, rfl, Below.refl _ _, hG⟩
          simp [slotOf] at h4
          simp [execOp, go_sem, h4]
        · intro a W hG hR hO hp
          have h17 : slotOf a 17 = .slice (some ⟨b, off, none⟩) l.length dp := hp.1
          have h18 : slotOf a 18 = .int .i64 k := hp.2.1
          refine wp_yields (v := .pointer (some ⟨b, off + k * 4, none⟩)) ?_ ⟨_, rfl, rfl, Below.refl _ _, hG⟩
          simp [slotOf] at h17 h18
          simp [execOp, go_sem, h17, h18, hkn]
        · intro a W hG hR hO hp
          have h19 : slotOf a 19 = .pointer (some ⟨b, off + k * 4, none⟩) := hp.1
          refine wp_yields (v := .pointer (some ⟨b, off + k * 4 + 1, none⟩)) ?_ ⟨_, rfl, rfl, Below.refl _ _, hG⟩
          simp [slotOf] at h19
          simp [execOp, go_sem, h19]
        · intro a W hG hR hO hp
          have h20 : slotOf a 20 = .pointer (some ⟨b, off + k * 4 + 1, none⟩) := hp.1
          have c0 := keep_cell h1 hG
          refine wp_yields (v := vi d.day) ?_ ⟨_, rfl, rfl, Below.refl _ _, hG⟩
          simp [slotOf] at h20
          simp [execOp, go_sem, h20, c0]
        · intro a W hG hR hO hp
          have h0 := hO.slot 0 (by kernel_rfl)
          refine wp_yields (v := .slice (some ⟨b, off, none⟩) l.length dp) ?_ ⟨_, rfl, rfl, Below.refl _ _, hG⟩
          simp [slotOf] at h0
          simp [execOp, go_sem, h0]
        · intro a W hG hR hO hp
          have h4 := hO.slot 4 (by kernel_rfl)
          refine wp_yields (v := .int .i64 k) ?_ ⟨_, rfl, rfl, Below.refl _ _, hG⟩
          simp [slotOf] at h4
          simp [execOp, go_sem, h4]
        · intro a W hG hR hO hp
          have h22 : slotOf a 22 = .slice (some ⟨b, off, none⟩) l.length dp := hp.1
          have h23 : slotOf a 23 = .int .i64 k := hp.2.1
          refine wp_yields (v := .pointer (some ⟨b, off + k * 4, none⟩)) ?_ ⟨_, rfl, rfl, Below.refl _ _, hG⟩
          simp [slotOf] at h22 h23
          simp [execOp, go_sem, h22, h23, hkn]
        · intro a W hG hR hO hp
          have h24 : slotOf a 24 = .pointer (some ⟨b, off + k * 4, none⟩) := hp.1
          refine wp_yields (v := .pointer (some ⟨b, off + k * 4 + 2, none⟩)) ?_ ⟨_, rfl, rfl, Below.refl _ _, hG⟩
          simp [slotOf] at h24
          simp [execOp, go_sem, h24]
        · intro a W hG hR hO hp
          have h25 : slotOf a 25 = .pointer (some ⟨b, off + k * 4 + 2, none⟩) := hp.1
          have c0 := keep_cell h2 hG
          have c1 := keep_cell h3 hG
          refine wp_yields (v := .agg #[vi d.lo, vi d.hi]) ?_ ⟨_, rfl, rfl, Below.refl _ _, hG⟩
          simp [slotOf] at h25
          simp [execOp, go_sem, h25, c0, c1]
        · intro a W hG hR hO hp
          have h26 : slotOf a 26 = .agg #[vi d.lo, vi d.hi] := hp.1
          refine wp_enters (f := 57) (args := #[.agg #[vi d.lo, vi d.hi]]) ?_ ((to_any d.lo d.hi W).mono ?_)
          · simp [slotOf] at h26
            simp [go_sem, h26]
          · rintro e w' ⟨rfl, hb⟩
            exact ⟨_, rfl, _, rfl, rfl, hb, below_next hG hb⟩
        · intro a W hG hR hO hp
          have h16 : slotOf a 16 = vi d.cell := hp.1
          have h21 : slotOf a 21 = vi d.day := hp.2.1
          have h27 : slotOf a 27 = .agg #[vi d.lo, vi d.hi] := hp.2.2.1
          refine wp_yields (v := rdgV d) ?_ ⟨_, rfl, rfl, Below.refl _ _, hG⟩
          simp [slotOf] at h16 h21 h27
          simp [execOp, go_sem, h16, h21, h27]
        · intro a W hG hR hO hp
          have h28 : slotOf a 28 = rdgV d := hp.1
          refine wp_makes (v := .slice (some ⟨W.heap.size, 0, none⟩) 1 1) (W' := W.alloc (.cells #[vi d.cell, vi d.day, vi d.lo, vi d.hi] 103)) ?_ ⟨_, rfl, ⟨_, rfl, hG.size, Whole.made _ _ _⟩, (Below.refl _ _).alloc (Nat.le_refl _) _, hG.alloc hG.size _⟩
          simp [slotOf] at h28
          simp [execOp, go_sem, h28]
      · intro W hG hR
        rintro _ rfl _ rfl _ rfl _ rfl _ rfl _ rfl _ rfl _ rfl _ rfl _ rfl _ rfl _ rfl _ rfl _ rfl _ rfl _ rfl _ rfl _ rfl _ ⟨nb1, rfl, hnb1, hW1⟩
        change wpList _ _ _ _ _ _
        simp only [Act.put, List.setIfInBounds_toArray, List.set_cons_zero, List.set_cons_succ, List.drop_succ_cons, List.drop_zero]
        have HO2 := Lib.hid (own_below HO.out hG)
        have HNW := Lib.hid (World.news_of_block hW1)
        have HB2 := Lib.hid (below_next HB.out hG)
        have hbs := (below_next HB.out hG).size
        obtain ⟨hi0, hz0, hz1, hz2⟩ := HI.out
        clear hG hR hnb1 hW1 h0 h1 h2 h3
        go_wp2_with (at_builtin; go_loud ((refine wpList_append_lies _ rfl (.tmp 11) (.tmp 29) 84 rfl w.heap.size 103 i103 (.agg #[.int .i64 0, .int .i64 0, .int .i64 0, .int .i64 0]) 4 32 Try.underlying84 hi0 hz0 hz1 hz2 rfl (by omega) _ k _ rfl HO2.out ⟨nb1, 0, none⟩ 1 1 (rdgL d) rfl rfl HNW.out (by simp [Value.oneCell']) (by omega) (by unfold maxLen; omega) (by omega) hbs W.heap.size rfl ?_); intro gg cp2 w2 hown2 hgrow2 hat2 hlt2; rw [← take_flat rdgL l k d HDK.out] at hown2; have HO3 := Lib.hid hown2; have HB3 := Lib.hid ((HB2.out).grown hgrow2 hbs (own_ge HO2.out)); clear hown2 hgrow2 hat2 hlt2 hi0 hz0 hz1 hz2 hbs))
        go_roundw
        case rel => exact ⟨k + 1, by omega, by go_num, HB3.out, HO3.out⟩
        case measure => simp [intOf]; omega
    · have hkn : k = l.length := by omega
      subst hkn
      rw [List.take_of_length_le (Nat.le_refl _)] at hown
      obtain ⟨A2, c2, rfl⟩ := own_form hown
      have HF := Lib.hid (And.intro hbw hown)
      clear hbw hown
      go_wp2_with fail
      go_ret
      exact ⟨⟨_, rfl, A2, c2, rfl, row_of_own (by omega) (fun _ => rfl) HF.out.2⟩, HF.out.1⟩

/-! ## The test of all readings -/
def rdgB (n m : Nat) (x : Rdg) : Bool := inB x.cell 0 ((n : Int) - 1) && inB x.day 0 ((m : Int) - 1) && upB x.lo x.hi 100000
set_option maxHeartbeats 400000 in
theorem checkReading_any (x : Rdg) (gb db : Nat) (A : Option Addr) (n cp : Nat) (D : Option Addr) (m dp : Nat) (w : World) (hn : n ≤ 1000) (hm : m ≤ 1000)
    (hg : w.cell? ⟨gb, 0, none⟩ = some (.slice A n cp)) (hd : w.cell? ⟨db, 0, none⟩ = some (.slice D m dp)) :
    Calls Try.prog 72 #[rdgV x, .pointer (some ⟨gb, 0, none⟩), .pointer (some ⟨db, 0, none⟩)] w fun e w' => e = .returned (.bool (rdgB n m x)) ∧ Below w.heap.size w w' := by
  obtain ⟨cell, day, lo, hi⟩ := x
  have hlt := World.block_lt_of_cell? w _ hg
  have hlt2 := World.block_lt_of_cell? w _ hd
  dsimp only at hlt hlt2
  unfold rdgB
  dsimp only
  cases h1 : inB cell 0 ((n : Int) - 1)
  case' true => cases h2 : inB day 0 ((m : Int) - 1)
  case' true.true => cases h3 : upB lo hi 100000
  all_goals
    (go_enter Try.func72, Try.ntmps72
     go_wp2_with (first | (go_at_call 64; refine (within_any _ _ _ _).mono ?_; rintro e w' ⟨rfl, rfl⟩) | (go_at_call 65; refine (up_any _ _ _ _).mono ?_; rintro e w' ⟨rfl, rfl⟩))
     go_ret
     refine ⟨by simp, ?_⟩
     first | exact (Below.refl _ _).alloc (Nat.le_refl _) _ | exact ((Below.refl _ _).alloc (Nat.le_refl _) _).alloc (by simp) _)
set_option maxHeartbeats 400000 in
theorem notRdg_any (c : Rdg) (p : Rdg → Bool) (rb : Nat) (gb db : Nat) (w : World)
    (hr : w.cell? ⟨rb, 0, none⟩ = some (.func (.func 72) #[] #[.pointer (some ⟨gb, 0, none⟩), .pointer (some ⟨db, 0, none⟩)]))
    (hf : ∀ W, newer w W → Calls Try.prog 72 #[rdgV c, .pointer (some ⟨gb, 0, none⟩), .pointer (some ⟨db, 0, none⟩)] W fun e w' => e = .returned (.bool (p c)) ∧ Below W.heap.size W w') :
    Calls Try.prog 94 #[rdgV c, .pointer (some ⟨rb, 0, none⟩)] w fun e w' => e = .returned (.bool (!p c)) ∧ Below w.heap.size w w' := by
  have hlt := World.block_lt_of_cell? w _ hr
  dsimp only at hlt
  have HF := Lib.hid hf
  clear hf
  go_enter Try.func94, Try.ntmps94
  go_wp2_with (go_at_call 72; refine (HF.out _ (newer_allocH _ _)).mono ?_; rintro e w' ⟨rfl, hb⟩)
  go_ret
  exact ⟨rfl, below_next (newer_allocH _ _) hb⟩
set_option maxHeartbeats 400000 in
theorem idxRdg_any (l : List Rdg) (p : Rdg → Bool) (cp rb : Nat) (A : Option Addr) (w : World) (hn : l.length ≤ 1000) (hrow : Row rdgL 4 w w.heap.size A l)
    (hf : ∀ c W, Below w.heap.size w W → Calls Try.prog 94 #[rdgV c, .pointer (some ⟨rb, 0, none⟩)] W fun e w' => e = .returned (.bool (p c)) ∧ Below W.heap.size W w') :
    Calls Try.prog 102 #[.slice A l.length cp, .func (.func 94) #[] #[.pointer (some ⟨rb, 0, none⟩)]] w fun e w' => e = .returned (.int .i64 (idx p l)) ∧ Below w.heap.size w w' := by
  have HF := Lib.hid hf
  clear hf
  obtain ⟨n, hnl⟩ : ∃ n, n = l.length := ⟨_, rfl⟩
  rw [← hnl] at hn ⊢
  have HN := Lib.hid hnl
  clear hnl
  go_enter Try.func102, Try.ntmps102
  go_wp2
  go_loopw [4, 5, 8] (fun _ _ i wr => ∃ k : Nat, k ≤ n ∧ i = .int .i64 k ∧ Below w.heap.size w wr ∧ early p l k) (fun _ _ i _ => n - (intOf i).toNat)
  case atStart => exact ⟨0, Nat.zero_le _, rfl, Below.refl _ _, early_zero _ _⟩
  case round =>
    obtain ⟨k, hk, rfl, hbw, he⟩ := hrel
    have HE := Lib.hid he
    clear he
    by_cases hlt : k < n
    · obtain ⟨c, hc⟩ := get_of_lt (l := l) (k := k) (by have := HN.out; omega)
      obtain ⟨b, off, rfl, hb, h0, h1, h2, h3⟩ := row4 (hrow.below hbw) hc
      have HC := Lib.hid hc
      clear hc
      cases hp : p c
      · go_wp2_with (go_at_call 94; refine (HF.out c _ hbw).mono ?_; rintro e w' ⟨rfl, hb2⟩)
        go_roundw
        case rel => exact ⟨k + 1, by omega, by go_num, below_next hbw hb2, early_succ HE.out HC.out hp⟩
        case measure => simp [intOf]; omega
      · go_wp2_with (go_at_call 94; refine (HF.out c _ hbw).mono ?_; rintro e w' ⟨rfl, hb2⟩)
        go_ret
        exact ⟨ret_int (idx_here p l k c HC.out hp HE.out).symm, below_next hbw hb2⟩
    · go_wp2_with fail
      go_ret
      have hkn : k = l.length := by have := HN.out; omega
      exact ⟨ret_int (idx_none p l (hkn ▸ HE.out)).symm, hbw⟩

set_option maxHeartbeats 400000 in
theorem containsRdg_any (l : List Rdg) (p : Rdg → Bool) (cp rb : Nat) (A : Option Addr) (w : World) (hn : l.length ≤ 1000) (hrow : Row rdgL 4 w w.heap.size A l)
    (hf : ∀ c W, Below w.heap.size w W → Calls Try.prog 94 #[rdgV c, .pointer (some ⟨rb, 0, none⟩)] W fun e w' => e = .returned (.bool (p c)) ∧ Below W.heap.size W w') :
    Calls Try.prog 93 #[.slice A l.length cp, .func (.func 94) #[] #[.pointer (some ⟨rb, 0, none⟩)]] w fun e w' => e = .returned (.bool (decide (0 ≤ idx p l))) ∧ Below w.heap.size w w' := by
  have HF := Lib.hid hf
  clear hf
  go_enter Try.func93, Try.ntmps93
  go_wp2_with (go_at_call 102; refine (idxRdg_any l p cp rb A _ hn hrow HF.out).mono ?_; rintro e w' ⟨rfl, hb2⟩)
  go_ret
  exact ⟨rfl, hb2⟩
set_option maxHeartbeats 400000 in
theorem allRdg_any (l : List Rdg) (p : Rdg → Bool) (cp : Nat) (A : Option Addr) (gb db : Nat) (w : World) (hn : l.length ≤ 1000) (hrow : Row rdgL 4 w w.heap.size A l)
    (hf : ∀ c W, newer w W → Calls Try.prog 72 #[rdgV c, .pointer (some ⟨gb, 0, none⟩), .pointer (some ⟨db, 0, none⟩)] W fun e w' => e = .returned (.bool (p c)) ∧ Below W.heap.size W w') :
    Calls Try.prog 73 #[.slice A l.length cp, .func (.func 72) #[] #[.pointer (some ⟨gb, 0, none⟩), .pointer (some ⟨db, 0, none⟩)]] w fun e w' => e = .returned (.bool (l.all p)) ∧ Below w.heap.size w w' := by
  have HF := Lib.hid hf
  clear hf
  go_enter Try.func73, Try.ntmps73
  go_wp2_with (go_at_call 93; refine (containsRdg_any l (fun c => !p c) cp _ A _ hn ?hrow ?hf).mono ?_; rotate_left 2; rintro e w' ⟨rfl, hb2⟩)
  case hrow => exact (hrow.below (newer_allocH _ _)).more (by simp)
  case hf =>
    intro c W hbW
    refine notRdg_any c p _ gb db W ?_ (fun W' h => HF.out c W' (newer_trans (newer_trans (newer_allocH _ _) hbW) h))
    rw [hbW.cell (p := ⟨w.heap.size, 0, none⟩) (by simp)]; simp
  go_ret
  exact ⟨ret_bool (idx_all _ _), below_next (newer_allocH _ _) hb2⟩

/-! ## Is all known but the soak? -/
theorem one_any (lo hi : Int) (w : World) : Calls Try.prog 95 #[.agg #[vi lo, vi hi]] w fun e w' => e = .returned (.bool (lo == hi)) ∧ Below w.heap.size w w' := by
  go_enter Try.func95, Try.ntmps95
  go_wp2_with fail
  go_ret
  exact ⟨rfl, newer_allocH _ _⟩
theorem oneCell_any (c : Cell) (tb : Nat) (w : World) (ht : w.cell? ⟨tb, 0, none⟩ = some (.func (.func 95) #[] #[])) :
    Calls Try.prog 96 #[cellV c, .pointer (some ⟨tb, 0, none⟩)] w fun e w' => e = .returned (.bool (c.lo == c.hi)) ∧ Below w.heap.size w w' := by
  have hlt := World.block_lt_of_cell? w _ ht
  dsimp only at hlt
  have ht' := fun o => cell_alloc ht o
  go_enter Try.func96, Try.ntmps96
  go_wp2_with (go_at_call 95; refine (one_any _ _ _).mono ?_; rintro e w' ⟨rfl, hb⟩)
  go_ret
  exact ⟨rfl, below_next (newer_allocH _ _) hb⟩
theorem oneDay_any (c : Day) (tb : Nat) (w : World) (ht : w.cell? ⟨tb, 0, none⟩ = some (.func (.func 95) #[] #[])) :
    Calls Try.prog 97 #[dayV c, .pointer (some ⟨tb, 0, none⟩)] w fun e w' => e = .returned (.bool (c.lo == c.hi)) ∧ Below w.heap.size w w' := by
  have hlt := World.block_lt_of_cell? w _ ht
  dsimp only at hlt
  have ht' := fun o => cell_alloc ht o
  go_enter Try.func97, Try.ntmps97
  go_wp2_with (go_at_call 95; refine (one_any _ _ _).mono ?_; rintro e w' ⟨rfl, hb⟩)
  go_ret
  exact ⟨rfl, below_next (newer_allocH _ _) hb⟩
set_option maxHeartbeats 400000 in
theorem notCellK_any (c : Cell) (p : Cell → Bool) (rb : Nat) (tb : Nat) (w : World)
    (hr : w.cell? ⟨rb, 0, none⟩ = some (.func (.func 96) #[] #[.pointer (some ⟨tb, 0, none⟩)]))
    (hf : ∀ W, newer w W → Calls Try.prog 96 #[cellV c, .pointer (some ⟨tb, 0, none⟩)] W fun e w' => e = .returned (.bool (p c)) ∧ Below W.heap.size W w') :
    Calls Try.prog 90 #[cellV c, .pointer (some ⟨rb, 0, none⟩)] w fun e w' => e = .returned (.bool (!p c)) ∧ Below w.heap.size w w' := by
  have hlt := World.block_lt_of_cell? w _ hr
  dsimp only at hlt
  have HF := Lib.hid hf
  clear hf
  go_enter Try.func90, Try.ntmps90
  go_wp2_with (go_at_call 96; refine (HF.out _ (newer_allocH _ _)).mono ?_; rintro e w' ⟨rfl, hb⟩)
  go_ret
  exact ⟨rfl, below_next (newer_allocH _ _) hb⟩
set_option maxHeartbeats 400000 in
theorem allCellK_any (l : List Cell) (p : Cell → Bool) (cp : Nat) (A : Option Addr) (tb : Nat) (w : World) (hn : l.length ≤ 1000) (hrow : Row cellL 7 w w.heap.size A l)
    (hf : ∀ c W, newer w W → Calls Try.prog 96 #[cellV c, .pointer (some ⟨tb, 0, none⟩)] W fun e w' => e = .returned (.bool (p c)) ∧ Below W.heap.size W w') :
    Calls Try.prog 66 #[.slice A l.length cp, .func (.func 96) #[] #[.pointer (some ⟨tb, 0, none⟩)]] w fun e w' => e = .returned (.bool (l.all p)) ∧ Below w.heap.size w w' := by
  have HF := Lib.hid hf
  clear hf
  go_enter Try.func66, Try.ntmps66
  go_wp2_with (go_at_call 89; refine (containsCell_any l (fun c => !p c) cp _ A _ hn ?hrow ?hf).mono ?_; rotate_left 2; rintro e w' ⟨rfl, hb2⟩)
  case hrow => exact (hrow.below (newer_allocH _ _)).more (by simp)
  case hf =>
    intro c W hbW
    refine notCellK_any c p _ tb W ?_ (fun W' h => HF.out c W' (newer_trans (newer_trans (newer_allocH _ _) hbW) h))
    rw [hbW.cell (p := ⟨w.heap.size, 0, none⟩) (by simp)]; simp
  go_ret
  exact ⟨ret_bool (idx_all _ _), below_next (newer_allocH _ _) hb2⟩

set_option maxHeartbeats 400000 in
theorem notDayK_any (c : Day) (p : Day → Bool) (rb : Nat) (tb : Nat) (w : World)
    (hr : w.cell? ⟨rb, 0, none⟩ = some (.func (.func 97) #[] #[.pointer (some ⟨tb, 0, none⟩)]))
    (hf : ∀ W, newer w W → Calls Try.prog 97 #[dayV c, .pointer (some ⟨tb, 0, none⟩)] W fun e w' => e = .returned (.bool (p c)) ∧ Below W.heap.size W w') :
    Calls Try.prog 99 #[dayV c, .pointer (some ⟨rb, 0, none⟩)] w fun e w' => e = .returned (.bool (!p c)) ∧ Below w.heap.size w w' := by
  have hlt := World.block_lt_of_cell? w _ hr
  dsimp only at hlt
  have HF := Lib.hid hf
  clear hf
  go_enter Try.func99, Try.ntmps99
  go_wp2_with (go_at_call 97; refine (HF.out _ (newer_allocH _ _)).mono ?_; rintro e w' ⟨rfl, hb⟩)
  go_ret
  exact ⟨rfl, below_next (newer_allocH _ _) hb⟩
set_option maxHeartbeats 400000 in
theorem allDayK_any (l : List Day) (p : Day → Bool) (cp : Nat) (A : Option Addr) (tb : Nat) (w : World) (hn : l.length ≤ 1000) (hrow : Row dayL 3 w w.heap.size A l)
    (hf : ∀ c W, newer w W → Calls Try.prog 97 #[dayV c, .pointer (some ⟨tb, 0, none⟩)] W fun e w' => e = .returned (.bool (p c)) ∧ Below W.heap.size W w') :
    Calls Try.prog 82 #[.slice A l.length cp, .func (.func 97) #[] #[.pointer (some ⟨tb, 0, none⟩)]] w fun e w' => e = .returned (.bool (l.all p)) ∧ Below w.heap.size w w' := by
  have HF := Lib.hid hf
  clear hf
  go_enter Try.func82, Try.ntmps82
  go_wp2_with (go_at_call 98; refine (containsDay_any l (fun c => !p c) cp _ A _ hn ?hrow ?hf).mono ?_; rotate_left 2; rintro e w' ⟨rfl, hb2⟩)
  case hrow => exact (hrow.below (newer_allocH _ _)).more (by simp)
  case hf =>
    intro c W hbW
    refine notDayK_any c p _ tb W ?_ (fun W' h => HF.out c W' (newer_trans (newer_trans (newer_allocH _ _) hbW) h))
    rw [hbW.cell (p := ⟨w.heap.size, 0, none⟩) (by simp)]; simp
  go_ret
  exact ⟨ret_bool (idx_all _ _), below_next (newer_allocH _ _) hb2⟩

def knownB (g : Gnd) (days : List Day) : Bool := (g.slo == g.shi) && g.cells.all (fun c => c.lo == c.hi) && days.all fun d => d.lo == d.hi
set_option maxRecDepth 100000 in
set_option maxHeartbeats 1000000 in
theorem known_any (g : Gnd) (A : Option Addr) (ap : Nat) (days : List Day) (D : Option Addr) (dp : Nat) (w : World) (hn : g.cells.length ≤ 1000) (hm : days.length ≤ 1000) (hc : Row cellL 7 w w.heap.size A g.cells) (hd : Row dayL 3 w w.heap.size D days) :
    Calls Try.prog 74 #[gndV A ap g, .slice D days.length dp] w fun e w' => e = .returned (.bool (knownB g days)) ∧ Below w.heap.size w w' := by
  have HC := Lib.hid hc
  have HD := Lib.hid hd
  clear hc hd
  unfold knownB
  obtain ⟨b1, h1⟩ : ∃ b1, b1 = (g.slo == g.shi) := ⟨_, rfl⟩
  obtain ⟨b2, h2⟩ : ∃ b2, b2 = g.cells.all (fun c => c.lo == c.hi) := ⟨_, rfl⟩
  obtain ⟨b3, h3⟩ : ∃ b3, b3 = days.all (fun d => d.lo == d.hi) := ⟨_, rfl⟩
  have H1 := Lib.hid h1
  have H2 := Lib.hid h2
  have H3 := Lib.hid h3
  rw [← h1, ← h2, ← h3]
  clear h1 h2 h3
  cases b1
  · go_enter Try.func74, Try.ntmps74
    go_wp2_with fail
    refine (one_any _ _ _).mono ?_
    rw [← H1.out]
    rintro e w1 ⟨rfl, hb1⟩
    have HB := Lib.hid (below_next (below_next (newer_allocH _ _) (newer_allocH _ _)) hb1)
    clear hb1
    go_wp2_with fail
    go_ret
    exact ⟨rfl, HB.out⟩
  · obtain ⟨tb, htb⟩ : ∃ tb, tb = w.heap.size + 1 := ⟨_, rfl⟩
    have HW : Hid (∀ w1, newer ((w.alloc (.cells (gndC A ap g) 38)).alloc (.cells #[.func (.func 95) #[] #[]] 150)) w1 → newer w w1 ∧ Whole w1 w.heap.size 38 (gndC A ap g) ∧ Whole w1 tb 150 #[.func (.func 95) #[] #[]]) := by
      refine Lib.hid fun w1 hb => ⟨newer_trans (newer_trans (newer_allocH _ _) (newer_allocH _ _)) hb, ((Whole.made w 38 (gndC A ap g)).alloc _).below hb (by simp; omega), ?_⟩
      have h := (Whole.made (w.alloc (.cells (gndC A ap g) 38)) 150 #[.func (.func 95) #[] #[]]).below hb (by simp)
      rw [htb]
      simpa using h
    have HTB := Lib.hid htb
    cases b2
    · go_enter Try.func74, Try.ntmps74
      go_wp2_with fail
      refine (one_any _ _ _).mono ?_
      rw [← H1.out]
      rintro e w1 ⟨rfl, hb1⟩
      obtain ⟨hn1, hg1, ht1⟩ := HW.out w1 hb1
      rw [← HTB.out]
      have c0 := hg1.at 0 (v := .slice A g.cells.length ap) rfl
      have HCK := Lib.hid (allCellK_any g.cells (fun c => c.lo == c.hi) ap A tb w1 hn ((HC.out.below hn1).more hn1.size) (fun c W hW => oneCell_any c tb W ((ht1.below hW ht1.lt).at 0 rfl)))
      rw [← H2.out] at HCK
      have HN := Lib.hid hn1
      clear hn1 hg1 ht1 htb hb1
      go_wp2_with fail
      refine (HCK.out).mono ?_
      rintro e w2 ⟨rfl, hb2⟩
      have HB := Lib.hid (newer_trans HN.out hb2)
      clear hb2
      go_wp2_with fail
      go_ret
      exact ⟨rfl, HB.out⟩
    · cases b3
      all_goals
        go_enter Try.func74, Try.ntmps74
        go_wp2_with fail
        refine (one_any _ _ _).mono ?_
        rw [← H1.out]
        rintro e w1 ⟨rfl, hb1⟩
        obtain ⟨hn1, hg1, ht1⟩ := HW.out w1 hb1
        rw [← HTB.out]
        have c0 := hg1.at 0 (v := .slice A g.cells.length ap) rfl
        have HCK := Lib.hid (allCellK_any g.cells (fun c => c.lo == c.hi) ap A tb w1 hn ((HC.out.below hn1).more hn1.size) (fun c W hW => oneCell_any c tb W ((ht1.below hW ht1.lt).at 0 rfl)))
        rw [← H2.out] at HCK
        have HN := Lib.hid (And.intro hn1 ht1)
        clear hn1 hg1 ht1 htb hb1
        go_wp2_with fail
        refine (HCK.out).mono ?_
        rintro e w2 ⟨rfl, hb2⟩
        have hn2 := newer_trans HN.out.1 hb2
        have ht2 := HN.out.2.below hb2 HN.out.2.lt
        have HDK := Lib.hid (allDayK_any days (fun c => c.lo == c.hi) dp D tb w2 hm ((HD.out.below hn2).more hn2.size) (fun c W hW => oneDay_any c tb W ((ht2.below hW ht2.lt).at 0 rfl)))
        rw [← H3.out] at HDK
        have HN2 := Lib.hid hn2
        clear hn2 ht2 hb2 HN HCK
        go_wp2_with fail
        refine (HDK.out).mono ?_
        rintro e w3 ⟨rfl, hb3⟩
        have HB := Lib.hid (newer_trans HN2.out hb3)
        clear hb3
        go_wp2_with fail
        go_ret
        exact ⟨rfl, HB.out⟩
end Go.Proofs.Yteonkhohloabfaa

/- A map whose keys are structs, as a list of pairs in the order in which the keys came in: look-ups, stores, ranges. -/
namespace Go.Proofs.Yteonkhohloabfaa
open Go.ChangeMaps (setBlock)
open Go.RowKit

section
variable {K V : Type}
/-- The entries of a list of pairs. -/
def entL (ek : K → Value) (ev : V → Value) : List (K × V) → Nat → List MapEntry
  | [], _ => []
  | p :: l, i => { key := ek p.1, val := ev p.2, born := i } :: entL ek ev l (i + 1)
def ents (ek : K → Value) (ev : V → Value) (l : List (K × V)) : Array MapEntry := (entL ek ev l 0).toArray
theorem entL_len (ek : K → Value) (ev : V → Value) : ∀ (l : List (K × V)) (i : Nat), (entL ek ev l i).length = l.length
  | [], _ => rfl
  | _ :: l, i => by simp [entL, entL_len ek ev l (i + 1)]
theorem entL_get (ek : K → Value) (ev : V → Value) : ∀ (l : List (K × V)) (i j : Nat), (entL ek ev l i)[j]? = l[j]?.map fun p => { key := ek p.1, val := ev p.2, born := i + j }
  | [], _, _ => by simp [entL]
  | _ :: _, _, 0 => by simp [entL]
  | _ :: l, i, j + 1 => by
    simp only [entL, List.getElem?_cons_succ, entL_get ek ev l (i + 1) j]
    rw [show i + 1 + j = i + (j + 1) by omega]
theorem entL_append (ek : K → Value) (ev : V → Value) : ∀ (l m : List (K × V)) (i : Nat), entL ek ev (l ++ m) i = entL ek ev l i ++ entL ek ev m (i + l.length)
  | [], m, i => by simp [entL]
  | p :: l, m, i => by
    simp only [List.cons_append, entL, entL_append ek ev l m (i + 1), List.length_cons]
    rw [show i + 1 + l.length = i + (l.length + 1) by omega]
theorem entL_mem {ek : K → Value} {ev : V → Value} : ∀ {l : List (K × V)} {i : Nat} {e : MapEntry}, e ∈ entL ek ev l i → ∃ j p, l[j]? = some p ∧ e = { key := ek p.1, val := ev p.2, born := i + j }
  | l, i, e, h => by
    obtain ⟨j, hj⟩ := List.mem_iff_getElem?.1 h
    rw [entL_get] at hj
    obtain ⟨p, hp, rfl⟩ := Option.map_eq_some_iff.1 hj
    exact ⟨j, p, hp, rfl⟩
theorem entL_born (ek : K → Value) (ev : V → Value) : ∀ (l : List (K × V)) (i : Nat), ((entL ek ev l i).map (·.born)) = List.range' i l.length
  | [], _ => rfl
  | _ :: l, i => by simp [entL, entL_born ek ev l (i + 1), List.range'_succ]

variable [DecidableEq K]
/-- The value at a key, with its place. -/
def atR (a : K) : List (K × V) → Nat → Option (Nat × V)
  | [], _ => none
  | p :: l, i => if a = p.1 then some (i, p.2) else atR a l (i + 1)
def putR (a : K) (v : V) (l : List (K × V)) : List (K × V) := match atR a l 0 with
  | some (i, _) => l.set i (a, v)
  | none => l ++ [(a, v)]
theorem atR_some {a : K} : ∀ {l : List (K × V)} {i j : Nat} {v : V}, atR a l i = some (j, v) → i ≤ j ∧ l[j - i]? = some (a, v)
  | p :: l, i, j, v, h => by
    simp only [atR] at h
    by_cases e : a = p.1
    · rw [if_pos e] at h
      injection h with h
      injection h with h1 h2
      subst h1
      subst h2
      exact ⟨Nat.le_refl _, by simp [e]⟩
    · rw [if_neg e] at h
      obtain ⟨h1, h2⟩ := atR_some h
      refine ⟨by omega, ?_⟩
      rw [show j - i = (j - (i + 1)) + 1 by omega]
      exact h2
theorem atR_none {a : K} : ∀ {l : List (K × V)} {i : Nat}, atR a l i = none → ∀ p ∈ l, a ≠ p.1
  | q :: l, i, h, p, hp => by
    simp only [atR] at h
    by_cases e : a = q.1
    · rw [if_pos e] at h; cases h
    · rw [if_neg e] at h
      rcases List.mem_cons.1 hp with rfl | hp
      · exact e
      · exact atR_none h p hp

/-- What is asked of a struct type whose values are keys. -/
structure EqKey (P : Program) (kt : TypeId) (ek : K → Value) : Prop where
  eq : ∀ (a b : K) (W : World), (Op.equal kt (ek a) (ek b)).run P W = .ok (decide (a = b)) W
  check : ∀ (c : Bool) (a : K) (W : World), (Instr.checkKey c 10000 kt (ek a)).run P W = .ok () W
  bits : ∀ a : K, Instr.sameBits 10000 (ek a) (ek a) = true
  desc : ∃ fs, P.underlying kt = some (.struct fs)
theorem asking_run {P : Program} {kt : TypeId} {ek : K → Value} (E : EqKey P kt ek) (ev : V → Value) (a : K) (W : World) : ∀ (l : List (K × V)) (i0 i : Nat), (Instr.findAsking kt (ek a) (entL ek ev l i0) i).run P W = .ok ((atR a l i).map fun p => (p.1, ev p.2)) W
  | [], _, _ => rfl
  | p :: l, i0, i => by
    simp only [entL, Instr.findAsking, Sem.run_bind, E.eq a p.1 W, Result.andThen, atR]
    by_cases e : a = p.1
    · simp [e]
    · simp only [e, decide_false, Bool.false_eq_true, if_false]
      exact asking_run E ev a W l (i0 + 1) (i + 1)
omit [DecidableEq K] in
theorem findNow_struct (fs : Array Field) (k : Value) (e : MapEntry) (es : List MapEntry) (i : Nat) : Instr.findNow (.struct fs) k (e :: es) i = none := by
  simp [Instr.findNow, Instr.sameNow]
theorem find_run {P : Program} {kt : TypeId} {ek : K → Value} (E : EqKey P kt ek) (ev : V → Value) (a : K) (W : World) (l : List (K × V)) : (Instr.findKey kt (ek a) (ents ek ev l).toList).run P W = .ok ((atR a l 0).map fun p => (p.1, ev p.2)) W := by
  obtain ⟨fs, hd⟩ := E.desc
  unfold Instr.findKey
  simp only [Sem.run_bind, run_underlying hd, Result.andThen, ents]
  cases l with
  | nil => rfl
  | cons p l =>
    have h := asking_run E ev a W (p :: l) 0 0
    simp only [entL] at h ⊢
    rw [findNow_struct]
    exact h

/-- The map lies in block b, with these pairs. -/
structure RMap (ek : K → Value) (ev : V → Value) (b : Nat) (l : List (K × V)) (W : World) : Prop where
  at_ : W.heap[b]? = some (.map (ents ek ev l) l.length)
omit [DecidableEq K] in
theorem RMap.lt {ek : K → Value} {ev : V → Value} {b : Nat} {l : List (K × V)} {W : World} (h : RMap ek ev b l W) : b < W.heap.size := (Array.getElem?_eq_some_iff.1 h.at_).1
omit [DecidableEq K] in
theorem RMap.same {ek : K → Value} {ev : V → Value} {b : Nat} {l : List (K × V)} {W W' : World} (h : RMap ek ev b l W) (hs : W'.heap[b]? = W.heap[b]?) : RMap ek ev b l W' := ⟨hs.trans h.at_⟩
omit [DecidableEq K] in
theorem RMap.below {ek : K → Value} {ev : V → Value} {b B : Nat} {l : List (K × V)} {W W' : World} (h : RMap ek ev b l W) (hb : Below B W W') (hB : b < B) : RMap ek ev b l W' := h.same (hb.block b hB)
omit [DecidableEq K] in
theorem RMap.next {ek : K → Value} {ev : V → Value} {b : Nat} {l : List (K × V)} {W W' : World} (h : RMap ek ev b l W) (hb : newer W W') : RMap ek ev b l W' := h.below hb h.lt
omit [DecidableEq K] in
theorem RMap.far {ek : K → Value} {ev : V → Value} {b : Nat} {l : List (K × V)} {W : World} (h : RMap ek ev b l W) {p : Addr} (hp : b ≠ p.block) (u : Value) : RMap ek ev b l (W.setCell p u) := h.same (Below.heap_setCell W p u b hp)
omit [DecidableEq K] in
theorem RMap.made (ek : K → Value) (ev : V → Value) (W : World) : RMap ek ev W.heap.size [] (W.alloc (.map #[] 0)) := ⟨by simp only [World.alloc, Array.getElem?_push_size]; rfl⟩

theorem lookup_run {P : Program} {kt vt mt : TypeId} {ek : K → Value} {ev : V → Value} (E : EqKey P kt ek) (ht : P.underlying mt = some (.map kt vt)) {z : Value} {W : World} (hz : (zeroValue vt).run P W = .ok z W) {b : Nat} {l : List (K × V)} (h : RMap ek ev b l W) (a : K) (ok : Bool) :
    (Instr.lookup mt (.map (some b)) (ek a) ok).run P W = .ok (if ok then .tuple #[((atR a l 0).map fun p => ev p.2).getD z, .bool (atR a l 0).isSome] else ((atR a l 0).map fun p => ev p.2).getD z) W := by
  unfold Instr.lookup
  simp only [Sem.run_bind, run_underlying ht, Result.andThen, MapKept.run_getObj_map h.at_, Sem.run_pure, E.check, find_run E ev a W l]
  cases hh : atR a l 0 with
  | none => simp only [Option.map_none, Sem.run_bind, hz, Result.andThen, Sem.run_pure]; cases ok <;> rfl
  | some p => simp only [Option.map_some]; cases ok <;> rfl

omit [DecidableEq K] in
theorem ents_push (ek : K → Value) (ev : V → Value) (l : List (K × V)) (a : K) (v : V) : (ents ek ev l).push { key := ek a, val := ev v, born := l.length } = ents ek ev (l ++ [(a, v)]) := by
  unfold ents
  rw [entL_append]
  simp [entL]
omit [DecidableEq K] in
theorem ents_modify (ek : K → Value) (ev : V → Value) (l : List (K × V)) (i : Nat) (a : K) (v v0 : V) (h : l[i]? = some (a, v0)) : (ents ek ev l).modify i (fun e => { e with key := ek a, val := ev v }) = ents ek ev (l.set i (a, v)) := by
  apply Array.ext'
  rw [Array.toList_modify]
  apply List.ext_getElem?
  intro j
  unfold ents
  rw [List.getElem?_modify, entL_get, entL_get, List.getElem?_set]
  by_cases e : i = j
  · subst e
    have hi := (List.getElem?_eq_some_iff.1 h).1
    rw [h]
    simp [hi]
  · simp [e]
theorem update_run {P : Program} {kt vt mt : TypeId} {ek : K → Value} {ev : V → Value} (E : EqKey P kt ek) (ht : P.underlying mt = some (.map kt vt)) {W : World} {b : Nat} {l : List (K × V)} (h : RMap ek ev b l W) (a : K) (v : V) :
    (Instr.mapUpdate mt (.map (some b)) (ek a) (ev v)).run P W = .ok () (setBlock W b (.map (ents ek ev (putR a v l)) (putR a v l).length)) := by
  unfold Instr.mapUpdate
  simp only [Sem.run_bind, run_underlying ht, Result.andThen, MapKept.run_getObj_map h.at_, E.check, find_run E ev a W l]
  unfold putR
  cases hh : atR a l 0 with
  | none =>
    simp only [Option.map_none, MapKept.run_setObj_map _ h.at_]
    rw [ents_push]
    simp [setBlock]
  | some p =>
    obtain ⟨i, v0⟩ := p
    obtain ⟨_, hi⟩ := atR_some hh
    simp only [Nat.sub_zero] at hi
    have hk : (((ents ek ev l)[i]?).map (·.key)).getD (ek a) = ek a := by
      unfold ents
      simp [entL_get, hi]
    simp only [Option.map_some, Sem.run_bind, hk, Instr.keyThatStays, E.bits a, if_true, Sem.run_pure, Result.andThen, MapKept.run_setObj_map _ h.at_]
    rw [ents_modify ek ev l i a v v0 hi]
    simp [setBlock]
end

/-! ## The world behind a store in a map -/
theorem setBlock_get_ne {W : World} {b g : Nat} (o : Obj) (h : g ≠ b) : (setBlock W b o).heap[g]? = W.heap[g]? := by
  simp only [setBlock]
  rw [Array.getElem?_setIfInBounds_ne (Ne.symm h)]
theorem below_setBlock {B : Nat} {w W : World} {b : Nat} (h : Below B w W) (hb : B ≤ b) (o : Obj) : Below B w (setBlock W b o) :=
  ⟨h.os, h.tape, h.output, by simp only [setBlock, Array.size_setIfInBounds]; exact h.size, fun i hi => (setBlock_get_ne o (by omega)).trans (h.block i hi)⟩
section
variable {K V : Type}
theorem RMap.put {ek : K → Value} {ev : V → Value} {b : Nat} {l l' : List (K × V)} {W : World} (h : RMap ek ev b l W) : RMap ek ev b l' (setBlock W b (.map (ents ek ev l') l'.length)) :=
  ⟨by simp only [setBlock]; rw [Array.getElem?_setIfInBounds_self_of_lt h.lt]⟩
theorem Whole.setBlock {W : World} {g b : Nat} {t : TypeId} {cs : Array Value} (h : Whole W g t cs) (hne : g ≠ b) (o : Obj) : Whole (Go.ChangeMaps.setBlock W b o) g t cs := (setBlock_get_ne o hne).trans h

variable [DecidableEq K]
theorem wpList_lookup_r {P : Program} (w : World) {ops : Array Oper} {rest : List Oper} {o : Oper} {a : Act} {Q : Exit → Act → World → Prop} (hg : o.guard = none) (m x : Operand) (t : TypeId) (c : Bool) (hop : o.op = Op.lookup t m x c)
    {kt vt : TypeId} {ek : K → Value} {ev : V → Value} (E : EqKey P kt ek) (ht : P.underlying t = some (.map kt vt)) {z : Value} (hz : (zeroValue vt).run P w = .ok z w) (b : Nat) (l : List (K × V)) (hm : a.eval m = .map (some b)) (h : RMap ek ev b l w) (k : K) (hx : a.eval x = ek k)
    (hK : wpList P ops Q rest (a.put o.dst (if c then .tuple #[((atR k l 0).map fun p => ev p.2).getD z, .bool (atR k l 0).isSome] else ((atR k l 0).map fun p => ev p.2).getD z)) w) :
    wpList P ops Q (o :: rest) a w := by
  refine wpList_plain hg fun K' hK' => ?_
  unfold Oper.wp
  simp only [execOp, hop, hm, hx, lookup_run E ht hz h k c, Sem.run_bind, Result.andThen]
  exact hK' _ _ hK
theorem wpList_update_r {P : Program} (w : World) {ops : Array Oper} {rest : List Oper} {o : Oper} {a : Act} {Q : Exit → Act → World → Prop} (hg : o.guard = none) (m x v : Operand) (t : TypeId) (hop : o.op = Op.mapUpdate t m x v)
    {kt vt : TypeId} {ek : K → Value} {ev : V → Value} (E : EqKey P kt ek) (ht : P.underlying t = some (.map kt vt)) (b : Nat) (l : List (K × V)) (hm : a.eval m = .map (some b)) (h : RMap ek ev b l w) (k : K) (y : V) (hx : a.eval x = ek k) (hv : a.eval v = ev y)
    (hK : wpList P ops Q rest (a.put o.dst undef) (setBlock w b (.map (ents ek ev (putR k y l)) (putR k y l).length))) :
    wpList P ops Q (o :: rest) a w := by
  refine wpList_plain hg fun K' hK' => ?_
  unfold Oper.wp
  simp only [execOp, hop, hm, hx, hv, update_run E ht h k y, Sem.run_bind, Result.andThen]
  exact hK' _ _ hK
end

/-! ## A range over a map that its rounds leave as it is -/
def unseen (n : Nat) (seen : Array Nat) : Nat := ((List.range n).filter fun j => !seen.contains j).length
theorem unseen_push {n j : Nat} {seen : Array Nat} (hj : j < n) (hs : seen.contains j = false) : unseen n (seen.push j) + 1 = unseen n seen := by
  unfold unseen
  have e : (List.range n).filter (fun i => !(seen.push j).contains i) = ((List.range n).filter fun i => !seen.contains i).filter (fun i => decide (i ≠ j)) := by
    rw [List.filter_filter]
    apply List.filter_congr
    intro i _
    by_cases hij : i = j
    · subst hij; simp
    · simp [hij]
  rw [e]
  exact filter_ne_length j _ (List.nodup_range.filter _) (List.mem_filter.2 ⟨List.mem_range.2 hj, by simpa using hs⟩)
theorem unseen_zero {n : Nat} {seen : Array Nat} (h : ∀ j, j < n → seen.contains j = true) : unseen n seen = 0 := by
  unfold unseen
  rw [List.length_eq_zero_iff, List.filter_eq_nil_iff]
  intro j hj
  simpa using h j (List.mem_range.1 hj)
section
variable {K V : Type}
/-- The iterator in block r, over the map in block b. -/
structure RIter (ek : K → Value) (ev : V → Value) (b : Nat) (l : List (K × V)) (r : Nat) (seen : Array Nat) (W : World) : Prop where
  map : RMap ek ev b l W
  it : W.heap[r]? = some (.mapIter (some b) l.length seen l.length)
theorem RIter.lt {ek : K → Value} {ev : V → Value} {b r : Nat} {l : List (K × V)} {seen : Array Nat} {W : World} (h : RIter ek ev b l r seen W) : r < W.heap.size := (Array.getElem?_eq_some_iff.1 h.it).1
theorem RIter.next {ek : K → Value} {ev : V → Value} {b r : Nat} {l : List (K × V)} {seen : Array Nat} {W W' : World} (h : RIter ek ev b l r seen W) (hb : newer W W') : RIter ek ev b l r seen W' := ⟨h.map.next hb, (hb.block r h.lt).trans h.it⟩
def stepsLeft (r n : Nat) (W : World) : Nat := match W.heap[r]? with
  | some (.mapIter _ _ seen _) => unseen n seen
  | _ => 0
theorem RIter.left {ek : K → Value} {ev : V → Value} {b r : Nat} {l : List (K × V)} {seen : Array Nat} {W : World} (h : RIter ek ev b l r seen W) (n : Nat) : stepsLeft r n W = unseen n seen := by
  unfold stepsLeft
  rw [h.it]
theorem wpList_range_r {P : Program} (w : World) {ops : Array Oper} {rest : List Oper} {o : Oper} {a : Act} {Q : Exit → Act → World → Prop} (hg : o.guard = none) (m : Operand) (t : TypeId) (hop : o.op = Op.range t m)
    {kt vt : TypeId} {ek : K → Value} {ev : V → Value} (ht : P.underlying t = some (.map kt vt)) (b : Nat) (l : List (K × V)) (hm : a.eval m = .map (some b)) (h : RMap ek ev b l w)
    (hK : ∀ w', newer w w' → RIter ek ev b l w.heap.size #[] w' → wpList P ops Q rest (a.put o.dst (.pointer (some ⟨w.heap.size, 0, none⟩))) w') :
    wpList P ops Q (o :: rest) a w := by
  refine wpList_plain hg fun K' hK' => ?_
  unfold Oper.wp
  simp only [execOp, hop, hm, run_range_map w t kt vt b _ _ ht h.at_, Sem.run_bind, Result.andThen]
  have hn : newer w (w.alloc (.mapIter (some b) l.length #[] l.length)) := (Below.refl _ _).alloc (Nat.le_refl _) _
  exact hK' _ _ (hK _ hn ⟨h.next hn, heap_alloc_new w _⟩)
theorem ents_hold (ek : K → Value) (ev : V → Value) (l : List (K × V)) : ∀ x ∈ (ents ek ev l).toList, x.born < l.length := by
  intro x hx
  obtain ⟨j, p, hp, rfl⟩ := entL_mem hx
  have := (List.getElem?_eq_some_iff.1 hp).1
  simpa using this
theorem ents_nodup (ek : K → Value) (ev : V → Value) (l : List (K × V)) : ((ents ek ev l).toList.map (·.born)).Nodup := by
  unfold ents
  rw [entL_born]
  exact List.nodup_range'
/-- A step: nothing is left, or some pair that has not come yet. -/
theorem wpList_next_r {P : Program} (w : World) {ops : Array Oper} {rest : List Oper} {o : Oper} {a : Act} {Q : Exit → Act → World → Prop} (hg : o.guard = none) (it : Operand) (hop : o.op = Op.next it false)
    {ek : K → Value} {ev : V → Value} (b r : Nat) (l : List (K × V)) (seen : Array Nat) (hit : a.eval it = .pointer (some ⟨r, 0, none⟩)) (h : RIter ek ev b l r seen w)
    (hDone : (∀ j, j < l.length → seen.contains j = true) → wpList P ops Q rest (a.put o.dst (.tuple #[.bool false])) w)
    (hMore : ∀ (j : Nat) (p : K × V) (w' : World), l[j]? = some p → seen.contains j = false → RIter ek ev b l r (seen.push j) w' → (∀ B, B ≤ r → Below B w w') → w'.heap.size = w.heap.size → (∀ g, g ≠ r → w'.heap[g]? = w.heap[g]?) →
      (Instr.entry (.pointer (some ⟨r, 0, none⟩))).run P w' = .ok (.tuple #[ek p.1, ev p.2]) w' → wpList P ops Q rest (a.put o.dst (.tuple #[.bool true, ek p.1, ev p.2])) w') :
    wpList P ops Q (o :: rest) a w := by
  refine wpList_plain hg fun K' hK' => ?_
  unfold Oper.wp
  rcases run_next_at (P := P) w o.type r b l.length l.length seen _ _ h.it h.map.at_ (ents_hold ek ev l) (Nat.le_refl _) with ⟨h0, hrun⟩ | ⟨e, he, w1, hw1, hrun⟩
  · simp only [execOp, hop, hit, hrun, Sem.run_bind, Result.andThen]
    refine hK' _ _ (hDone fun j hj => ?_)
    cases hc : seen.contains j with
    | true => rfl
    | false =>
      exfalso
      have hm : ({ key := ek l[j].1, val := ev l[j].2, born := j } : MapEntry) ∈ leftOf (ents ek ev l) seen := by
        unfold leftOf
        rw [Array.mem_filter]
        refine ⟨?_, by simpa using hc⟩
        have hg : (entL ek ev l 0)[j]? = some { key := ek l[j].1, val := ev l[j].2, born := j } := by
          rw [entL_get, List.getElem?_eq_getElem hj]
          simp
        have := List.mem_of_getElem? hg
        simpa [ents] using this
      have := Array.size_pos_of_mem hm
      omega
  · have he' : e ∈ leftOf (ents ek ev l) seen := by simpa using he
    unfold leftOf at he'
    rw [Array.mem_filter] at he'
    obtain ⟨hin, hs⟩ := he'
    obtain ⟨j, p, hp, rfl⟩ := entL_mem (ek := ek) (ev := ev) (l := l) (i := 0) (by simpa [ents] using hin)
    simp only [Nat.zero_add, Bool.not_eq_true'] at hs
    have hjl := (List.getElem?_eq_some_iff.1 hp).1
    simp only [execOp, hop, hit, hrun, Sem.run_bind, Result.andThen]
    simp only [Nat.zero_add]
    have hh : w1.heap = w.heap := by rcases hw1 with rfl | rfl <;> rfl
    have hit' : (setBlock w1 r (.mapIter (some b) l.length (seen.push j) l.length)).heap[r]? = some (.mapIter (some b) l.length (seen.push j) l.length) := by
      simp only [setBlock]
      rw [Array.getElem?_setIfInBounds_self_of_lt (by rw [hh]; exact h.lt)]
    have hne : b ≠ r := by
      intro e
      have h1 := h.map.at_
      rw [e, h.it] at h1
      injection h1 with h1
      cases h1
    have hother : ∀ g, g ≠ r → (setBlock w1 r (.mapIter (some b) l.length (seen.push j) l.length)).heap[g]? = w.heap[g]? := by
      intro g hgr
      rw [setBlock_get_ne _ hgr, hh]
    have hmap : RMap ek ev b l (setBlock w1 r (.mapIter (some b) l.length (seen.push j) l.length)) := ⟨(hother b hne).trans h.map.at_⟩
    have hB : ∀ B, B ≤ r → Below B w (setBlock w1 r (.mapIter (some b) l.length (seen.push j) l.length)) := by
      intro B hBr
      have hb1 : Below B w w1 := by rcases hw1 with rfl | rfl <;> exact ⟨rfl, rfl, rfl, Nat.le_refl _, fun _ _ => rfl⟩
      exact below_setBlock hb1 hBr _
    refine hK' _ _ (hMore j p _ hp hs ⟨hmap, hit'⟩ hB (by simp only [setBlock, Array.size_setIfInBounds, hh]) hother ?_)
    exact run_entry_at _ r b l.length seen _ _ { key := ek p.1, val := ev p.2, born := j } hit' hmap.at_ (by
      have hg : (entL ek ev l 0)[j]? = some { key := ek p.1, val := ev p.2, born := j } := by
        rw [entL_get, hp]
        simp
      have := List.mem_of_getElem? hg
      simpa [ents] using this) (ents_nodup ek ev l)
end
end Go.Proofs.Yteonkhohloabfaa

/- What all readings allow, by cell and day. -/
namespace Go.Proofs.Yteonkhohloabfaa
open Go.RowKit Go.Shelf

abbrev spotK (p : Int × Int) : Value := .agg #[vi p.1, vi p.2]
theorem spot_eq (a b : Int × Int) (W : World) : (Op.equal 142 (spotK a) (spotK b)).run Try.prog W = .ok (decide (a = b)) W := by
  obtain ⟨a1, a2⟩ := a
  obtain ⟨b1, b2⟩ := b
  have e : decide ((a1, a2) = (b1, b2)) = (a1 == b1 && a2 == b2) := by
    rw [Bool.eq_iff_iff]
    simp
  rw [e]
  simp [Op.equal, Op.maxDepth, go_sem]
  by_cases h1 : a1 = b1 <;> by_cases h2 : a2 = b2 <;> simp [h1, h2]
theorem spot_check (c : Bool) (a : Int × Int) (W : World) : (Instr.checkKey c 10000 142 (spotK a)).run Try.prog W = .ok () W := by
  have h : ∀ n, (Instr.checkKey c (n + 2) 142 (spotK a)).run Try.prog W = .ok () W := by
    intro n
    simp [Instr.checkKey, run_underlying Try.underlying142, run_underlying Try.underlying3, go_sem]
  exact h 9998
theorem spot_bits (a : Int × Int) : Instr.sameBits 10000 (spotK a) (spotK a) = true := by
  have h : ∀ n, Instr.sameBits (n + 1) (spotK a) (spotK a) = true := by
    intro n
    cases n <;> simp [Instr.sameBits]
  exact h 9999
theorem spot_key : EqKey Try.prog 142 spotK := ⟨spot_eq, spot_check, spot_bits, _, Try.underlying142⟩
theorem zero36 (w : World) : (zeroValue 36).run Try.prog w = .ok (.agg #[vi 0, vi 0]) w := by kernel_rfl

/-- What is allowed at a spot, once one reading more is known. -/
def meetR (acc : List ((Int × Int) × (Int × Int))) (x : Rdg) : Int × Int := match atR (x.cell, x.day) acc 0 with
  | some (_, lo, hi) => (mxI lo x.lo, mnI hi x.hi)
  | none => (mxI x.lo x.lo, mnI x.hi x.hi)
def readStep (acc : List ((Int × Int) × (Int × Int))) (x : Rdg) : List ((Int × Int) × (Int × Int)) := putR (x.cell, x.day) (meetR acc x) acc
def readM (l : List Rdg) : List ((Int × Int) × (Int × Int)) := l.foldl readStep []
theorem readM_take (l : List Rdg) {k : Nat} {x : Rdg} (h : l[k]? = some x) : readM (l.take (k + 1)) = readStep (readM (l.take k)) x := by
  obtain ⟨hk, rfl⟩ := List.getElem?_eq_some_iff.1 h
  unfold readM
  rw [List.take_succ_eq_append_getElem hk, List.foldl_append]
  rfl

set_option maxRecDepth 100000 in
set_option maxHeartbeats 2000000 in
theorem read_any (l : List Rdg) (D : Option Addr) (dp : Nat) (w : World) (hm : l.length ≤ 1000) (hd : Row rdgL 4 w w.heap.size D l) :
    Calls Try.prog 76 #[.slice D l.length dp] w fun e w' => e = .returned (.map (some w.heap.size)) ∧ RMap spotK spotK w.heap.size (readM l) w' ∧ Below w.heap.size w w' := by
  have HD := Lib.hid hd
  clear hd
  have hmm := @run_makeMap Try.prog
  go_enter Try.func76, Try.ntmps76
  go_wp2_with fail
  clear hmm
  go_loopw [12] (fun s12 wr => ∃ k : Nat, k ≤ l.length ∧ s12 = .int .i64 k ∧ RMap spotK spotK w.heap.size (readM (l.take k)) wr ∧ Below w.heap.size w wr) (fun s12 _ => l.length - (intOf s12).toNat)
  case atStart => exact ⟨0, Nat.zero_le _, rfl, RMap.made _ _ _, newer_allocH _ _⟩
  case round =>
    obtain ⟨k, hk, rfl, hmap, hbw⟩ := hrel
    by_cases hlt : k < l.length
    · have hkn : (k : Int) < l.length := by omega
      obtain ⟨x, hx⟩ := get_of_lt hlt
      obtain ⟨b, off, rfl, hb, h0, h1, h2, h3⟩ := row4 (HD.out.below hbw) hx
      have HX := Lib.hid (readM_take l hx)
      obtain ⟨acc, hacc⟩ : ∃ acc, acc = readM (l.take k) := ⟨_, rfl⟩
      rw [← hacc] at hmap HX
      have HM := Lib.hid hmap
      have HB := Lib.hid hbw
      have hbs := hbw.size
      clear hx hmap hbw hacc
      cases hh : atR (x.cell, x.day) acc 0 with
      | none =>
        have HH := Lib.hid hh
        have HS : Hid (readM (l.take (k + 1)) = putR (x.cell, x.day) (x.lo, x.hi) acc) := by
          have h := HX.out
          unfold readStep meetR at h
          rw [hh] at h
          simp only [mxI, mnI, Int.lt_irrefl, if_false] at h
          exact Lib.hid h
        clear hh HX
        go_wp2_with (first | (at_lookup; refine wpList_lookup_r _ rfl _ _ 138 true rfl spot_key Try.underlying138 (zero36 _) w.heap.size acc rfl ((HM.out.next (newer_allocH _ _)).next (newer_allocH _ _)) (x.cell, x.day) rfl ?_; simp only [HH.out, Option.map_none, Option.getD_none, Option.isSome_none, if_true]) | (at_mapUpdate; refine wpList_update_r _ rfl _ _ _ 138 rfl spot_key Try.underlying138 w.heap.size acc rfl (((HM.out.next (newer_allocH _ _)).next (newer_allocH _ _)).next (newer_allocH _ _)) (x.cell, x.day) (x.lo, x.hi) rfl rfl ?_; rw [← HS.out]))
        exact ⟨⟨k + 1, by omega, by go_num, (((HM.out.next (newer_allocH _ _)).next (newer_allocH _ _)).next (newer_allocH _ _)).put, below_setBlock (below_next (below_next (below_next HB.out (newer_allocH _ _)) (newer_allocH _ _)) (newer_allocH _ _)) (Nat.le_refl _) _⟩, by (simp only [intOf]; omega)⟩
      | some p =>
        obtain ⟨i, lo, hi⟩ := p
        have HH := Lib.hid hh
        have HS : Hid (readM (l.take (k + 1)) = putR (x.cell, x.day) (mxI lo x.lo, mnI hi x.hi) acc) := by
          have h := HX.out
          unfold readStep meetR at h
          rw [hh] at h
          exact Lib.hid h
        clear hh HX
        by_cases c1 : lo < x.lo <;> by_cases c2 : x.hi < hi
        · have HS2 : Hid (readM (l.take (k + 1)) = putR (x.cell, x.day) (x.lo, x.hi) acc) := by
            have h := HS.out
            unfold mxI mnI at h
            rw [if_pos c1, if_pos c2] at h
            exact Lib.hid h
          clear HS
          go_wp2_with (first | (at_lookup; refine wpList_lookup_r _ rfl _ _ 138 true rfl spot_key Try.underlying138 (zero36 _) w.heap.size acc rfl ((HM.out.next (newer_allocH _ _)).next (newer_allocH _ _)) (x.cell, x.day) rfl ?_; simp only [HH.out, Option.map_some, Option.getD_some, Option.isSome_some, if_true]) | (at_mapUpdate; refine wpList_update_r _ rfl _ _ _ 138 rfl spot_key Try.underlying138 w.heap.size acc rfl (((HM.out.next (newer_allocH _ _)).next (newer_allocH _ _)).next (newer_allocH _ _)) (x.cell, x.day) (x.lo, x.hi) rfl rfl ?_; rw [← HS2.out]))
          exact ⟨⟨k + 1, by omega, by go_num, (((HM.out.next (newer_allocH _ _)).next (newer_allocH _ _)).next (newer_allocH _ _)).put, below_setBlock (below_next (below_next (below_next HB.out (newer_allocH _ _)) (newer_allocH _ _)) (newer_allocH _ _)) (Nat.le_refl _) _⟩, by (simp only [intOf]; omega)⟩
        · have HS2 : Hid (readM (l.take (k + 1)) = putR (x.cell, x.day) (x.lo, hi) acc) := by
            have h := HS.out
            unfold mxI mnI at h
            rw [if_pos c1, if_neg c2] at h
            exact Lib.hid h
          clear HS
          go_wp2_with (first | (at_lookup; refine wpList_lookup_r _ rfl _ _ 138 true rfl spot_key Try.underlying138 (zero36 _) w.heap.size acc rfl ((HM.out.next (newer_allocH _ _)).next (newer_allocH _ _)) (x.cell, x.day) rfl ?_; simp only [HH.out, Option.map_some, Option.getD_some, Option.isSome_some, if_true]) | (at_mapUpdate; refine wpList_update_r _ rfl _ _ _ 138 rfl spot_key Try.underlying138 w.heap.size acc rfl (((HM.out.next (newer_allocH _ _)).next (newer_allocH _ _)).next (newer_allocH _ _)) (x.cell, x.day) (x.lo, hi) rfl rfl ?_; rw [← HS2.out]))
          exact ⟨⟨k + 1, by omega, by go_num, (((HM.out.next (newer_allocH _ _)).next (newer_allocH _ _)).next (newer_allocH _ _)).put, below_setBlock (below_next (below_next (below_next HB.out (newer_allocH _ _)) (newer_allocH _ _)) (newer_allocH _ _)) (Nat.le_refl _) _⟩, by (simp only [intOf]; omega)⟩
        · have HS2 : Hid (readM (l.take (k + 1)) = putR (x.cell, x.day) (lo, x.hi) acc) := by
            have h := HS.out
            unfold mxI mnI at h
            rw [if_neg c1, if_pos c2] at h
            exact Lib.hid h
          clear HS
          go_wp2_with (first | (at_lookup; refine wpList_lookup_r _ rfl _ _ 138 true rfl spot_key Try.underlying138 (zero36 _) w.heap.size acc rfl ((HM.out.next (newer_allocH _ _)).next (newer_allocH _ _)) (x.cell, x.day) rfl ?_; simp only [HH.out, Option.map_some, Option.getD_some, Option.isSome_some, if_true]) | (at_mapUpdate; refine wpList_update_r _ rfl _ _ _ 138 rfl spot_key Try.underlying138 w.heap.size acc rfl (((HM.out.next (newer_allocH _ _)).next (newer_allocH _ _)).next (newer_allocH _ _)) (x.cell, x.day) (lo, x.hi) rfl rfl ?_; rw [← HS2.out]))
          exact ⟨⟨k + 1, by omega, by go_num, (((HM.out.next (newer_allocH _ _)).next (newer_allocH _ _)).next (newer_allocH _ _)).put, below_setBlock (below_next (below_next (below_next HB.out (newer_allocH _ _)) (newer_allocH _ _)) (newer_allocH _ _)) (Nat.le_refl _) _⟩, by (simp only [intOf]; omega)⟩
        · have HS2 : Hid (readM (l.take (k + 1)) = putR (x.cell, x.day) (lo, hi) acc) := by
            have h := HS.out
            unfold mxI mnI at h
            rw [if_neg c1, if_neg c2] at h
            exact Lib.hid h
          clear HS
          go_wp2_with (first | (at_lookup; refine wpList_lookup_r _ rfl _ _ 138 true rfl spot_key Try.underlying138 (zero36 _) w.heap.size acc rfl ((HM.out.next (newer_allocH _ _)).next (newer_allocH _ _)) (x.cell, x.day) rfl ?_; simp only [HH.out, Option.map_some, Option.getD_some, Option.isSome_some, if_true]) | (at_mapUpdate; refine wpList_update_r _ rfl _ _ _ 138 rfl spot_key Try.underlying138 w.heap.size acc rfl (((HM.out.next (newer_allocH _ _)).next (newer_allocH _ _)).next (newer_allocH _ _)) (x.cell, x.day) (lo, hi) rfl rfl ?_; rw [← HS2.out]))
          exact ⟨⟨k + 1, by omega, by go_num, (((HM.out.next (newer_allocH _ _)).next (newer_allocH _ _)).next (newer_allocH _ _)).put, below_setBlock (below_next (below_next (below_next HB.out (newer_allocH _ _)) (newer_allocH _ _)) (newer_allocH _ _)) (Nat.le_refl _) _⟩, by (simp only [intOf]; omega)⟩
    · obtain rfl : k = l.length := by omega
      rw [List.take_of_length_le (Nat.le_refl _)] at hmap
      have HF := Lib.hid (And.intro hmap hbw)
      clear hmap hbw
      go_wp2_with fail
      go_ret
      exact ⟨rfl, HF.out⟩
end Go.Proofs.Yteonkhohloabfaa

/- A ground's levels after each day, with a soak (function 75). -/
namespace Go.Proofs.Yteonkhohloabfaa
open Go.RowKit Go.Shelf

/-- k rows of n numbers each. -/
structure TabQ (W : World) (base n : Nat) (v1 : Value) (A : Nat → Option Addr) (c : Nat → Nat) (k : Nat) (f : Nat → Nat → Int) : Prop where
  own1 : W.ownsRow base 43 1 v1 k ((List.range k).map fun j => .slice (A j) n (c j))
  rows : ∀ j, j < k → Row intL 1 W W.heap.size (A j) ((List.range n).map (f j))
  low : ∀ j, j < k → ∀ a, A j = some a → base ≤ a.block ∧ a.block < W.heap.size
  apart1 : ∀ j, j < k → ∀ a, A j = some a → v1.ownBlock ≠ some a.block
section
variable {W W' : World} {base n : Nat} {v1 : Value} {A : Nat → Option Addr} {c : Nat → Nat} {k : Nat} {f : Nat → Nat → Int}
theorem TabQ.newer (h : TabQ W base n v1 A c k f) (hb : newer W W') : TabQ W' base n v1 A c k f :=
  ⟨own_below h.own1 hb, fun j hj => ((h.rows j hj).below hb).more hb.size, fun j hj a e => ⟨(h.low j hj a e).1, Nat.lt_of_lt_of_le (h.low j hj a e).2 hb.size⟩, h.apart1⟩
theorem TabQ.free (h : TabQ W base n v1 A c k f) {x : Nat} (hg : W.grownBy W' (some x)) (h1 : v1.ownBlock ≠ some x) (h3 : ∀ j, j < k → ∀ a, A j = some a → a.block ≠ x) : TabQ W' base n v1 A c k f :=
  ⟨h.own1.kept hg (.inr h1), fun j hj => (h.rows j hj).grownNe hg (Nat.le_refl _) hg.size (fun a e e' => by injection e' with e'; exact h3 j hj a e e'.symm), fun j hj a e => ⟨(h.low j hj a e).1, Nat.lt_of_lt_of_le (h.low j hj a e).2 hg.size⟩, h.apart1⟩
theorem TabQ.old (h : TabQ W base n v1 A c k f) {x : Nat} (hg : W.grownBy W' (some x)) (hx : x < base) : TabQ W' base n v1 A c k f :=
  h.free hg (fun e => by have := own_ge h.own1 _ e; omega) (fun j hj a e => by have := h.low j hj a e; omega)
theorem TabQ.empty_ (W : World) (base n : Nat) (A : Nat → Option Addr) (c : Nat → Nat) (f : Nat → Nat → Int) : TabQ W base n (.slice none 0 0) A c 0 f :=
  ⟨⟨by simp, .inl ⟨rfl, rfl⟩⟩, fun j hj => by omega, fun j hj => by omega, fun j hj => by omega⟩
theorem TabQ.more {base' : Nat} (h : TabQ W base' n v1 A c k f) (hb : base ≤ base') : TabQ W base n v1 A c k f :=
  ⟨own_more h.own1 hb, h.rows, fun j hj a e => ⟨Nat.le_trans hb (h.low j hj a e).1, (h.low j hj a e).2⟩, h.apart1⟩
end
theorem TabQ.add {w7 W w8 : World} {base n : Nat} {v1 : Value} {A : Nat → Option Addr} {c : Nat → Nat} {k : Nat} {f : Nat → Nat → Int} {B : Option Addr} {cb g1 c1 : Nat} (h : TabQ w7 base n v1 A c k f) (hw : Below w7.heap.size w7 W) (hr : Row intL 1 W W.heap.size B ((List.range n).map (f k))) (hrb : ∀ a, B = some a → w7.heap.size ≤ a.block ∧ a.block < W.heap.size) (hbw : base ≤ w7.heap.size)
    (hg1 : W.grownBy w8 v1.ownBlock) (ho1 : w8.ownsRow base 43 1 (.slice (some ⟨g1, 0, none⟩) (k + 1) c1) (k + 1) (((List.range k).map fun j => Value.slice (A j) n (c j)) ++ [.slice B n cb])) (hat1 : v1.ownBlock = some g1 ∨ W.heap.size ≤ g1) :
    TabQ w8 base n (.slice (some ⟨g1, 0, none⟩) (k + 1) c1) (fun j => if j = k then B else A j) (fun j => if j = k then cb else c j) (k + 1) f := by
  have h' := h.newer hw
  have ol := own_lt h.own1
  have hs1 := hg1.size
  have hs0 := hw.size
  have hB2 : ∀ a, B = some a → v1.ownBlock ≠ some a.block := fun a e e' => by
    have := ol _ e'
    have := (hrb a e).1
    omega
  refine ⟨?_, ?_, ?_, ?_⟩
  · have e : ((List.range (k + 1)).map fun j => Value.slice (if j = k then B else A j) n (if j = k then cb else c j)) = ((List.range k).map fun j => Value.slice (A j) n (c j)) ++ [.slice B n cb] := by
      rw [List.range_succ, List.map_append]
      congr 1
      · apply List.map_congr_left
        intro j hj
        have := List.mem_range.1 hj
        rw [if_neg (by omega), if_neg (by omega)]
      · simp
    rw [e]
    exact ho1
  · intro j hj
    by_cases e : j = k
    · subst e
      rw [if_pos rfl]
      exact hr.grownNe hg1 (Nat.le_refl _) hg1.size (fun a e => hB2 a e)
    · rw [if_neg e]
      exact (h'.rows j (by omega)).grownNe hg1 (Nat.le_refl _) hg1.size (fun a ea => h.apart1 j (by omega) a ea)
  · intro j hj a ea
    by_cases e : j = k
    · rw [if_pos e] at ea
      have := hrb a ea
      omega
    · rw [if_neg e] at ea
      have := h.low j (by omega) a ea
      omega
  · intro j hj a ea e'
    have e' : g1 = a.block := by simpa [Value.ownBlock] using e'
    by_cases e : j = k
    · rw [if_pos e] at ea
      rcases hat1 with h1 | h1
      · exact hB2 a ea (by rw [h1, e'])
      · have := (hrb a ea).2
        omega
    · rw [if_neg e] at ea
      rcases hat1 with h1 | h1
      · exact h.apart1 j (by omega) a ea (by rw [h1, e'])
      · have := (h.low j (by omega) a ea).2
        omega

/-- A way in which another soak is true. -/
def withSoak (s : Way) (soak : Int) : Way := { s with soak := soak }
def stQ (s : Way) (soak : Int) (k : Nat) : St := stAt s.l s.melt soak s.days s.rain ⟨iAt s.levels, s.tsnow, 0⟩ k
/-- The way has begun. -/
def vBeg (H : Nat) (s : Way) (v : Value) (W : World) : Prop := ∃ lb, v = .pointer (some ⟨lb, 0, none⟩) ∧ H ≤ lb ∧ OnWay W lb s (iAt s.levels) s.tsnow 0
theorem vBeg_st {H : Nat} {s : Way} : ∀ v W W', vBeg H s v W → newer W W' → vBeg H s v W' := fun _ _ _ ⟨lb, h1, h2, h3⟩ hb => ⟨lb, h1, h2, h3.below hb h3.blk.lt⟩
/-- run, its way begun. -/
structure RqB (w : World) (s : Way) (x : St) (lv lb : Nat) (W : World) : Prop where
  below : Below w.heap.size w W
  l1 : Whole W w.heap.size 60 #[.slice none 0 0]
  var : Whole W lv 107 #[.pointer (some ⟨lb, 0, none⟩)]
  way : OnWay W lb s x.f x.snow x.left
  far1 : w.heap.size < lv
  far2 : w.heap.size < lb
  ne : lv ≠ lb
/-- run, in its loop. -/
structure RqJ (w w3 : World) (n lb : Nat) (s : Way) (x : St) (r : Loop) (v1 : Value) (A : Nat → Option Addr) (c : Nat → Nat) (k : Nat) (f : Nat → Nat → Int) (W : World) : Prop where
  loop : W.heap[w3.heap.size + 1 + 1]? = some (.loop r)
  dfr : W.heap[w3.heap.size + 1]? = some (.deferred (some []))
  box : Whole W w3.heap.size 107 #[.pointer (some ⟨lb, 0, none⟩)]
  keep : Kept (fun i => i = w.heap.size ∨ i = lb) w3 W
  l1 : Whole W w.heap.size 60 #[v1]
  way' : OnWay W lb s x.f x.snow x.left
  tab : TabQ W (w3.heap.size + 1 + 1 + 1) n v1 A c k f
  far : w.heap.size < lb ∧ lb < w3.heap.size
section
variable {w w3 : World} {n lb : Nat} {s : Way} {x : St} {r : Loop} {v1 v1' : Value} {A A' : Nat → Option Addr} {c c' : Nat → Nat} {k k' : Nat} {f f' : Nat → Nat → Int} {W W' w8 : World}
theorem RqJ.newer (h : RqJ w w3 n lb s x r v1 A c k f W) (hb : newer W W') : RqJ w w3 n lb s x r v1 A c k f W' := by
  have hs := (Array.getElem?_eq_some_iff.1 h.loop).1
  exact ⟨(hb.block _ hs).trans h.loop, (hb.block _ (by omega)).trans h.dfr, h.box.below hb h.box.lt, h.keep.newer hb, h.l1.below hb h.l1.lt, h.way'.below hb h.way'.blk.lt, h.tab.newer hb, h.far⟩
theorem RqJ.way (h : RqJ w w3 n lb s x r v1 A c k f W) (hg : W.grownBy W' (some lb)) {x' : St} (hw : OnWay W' lb s x'.f x'.snow x'.left) : RqJ w w3 n lb s x' r v1 A c k f W' := by
  have hs := (Array.getElem?_eq_some_iff.1 h.loop).1
  have hf := h.far
  exact ⟨(hg.block _ hs (by intro e; injection e; omega)).trans h.loop, (hg.block _ (by omega) (by intro e; injection e; omega)).trans h.dfr, h.box.grown hg (by intro e; injection e; omega), h.keep.grown hg (.inl (.inr rfl)), h.l1.grown hg (by intro e; injection e; omega), hw, h.tab.old hg (by omega), hf⟩
theorem RqJ.put (h : RqJ w w3 n lb s x r v1 A c k f W) (r' : Loop) : RqJ w w3 n lb s x r' v1 A c k f (W.putObj (w3.heap.size + 1 + 1) (.loop r')) := by
  have hs := (Array.getElem?_eq_some_iff.1 h.loop).1
  have hf := h.far
  have hl := h.l1.lt
  have hg := grown_putL W (w3.heap.size + 1 + 1) (.loop r')
  exact ⟨World.putObj_heap_same hs, (World.putObj_heap_other (by omega)).trans h.dfr, h.box.put (by omega) _, h.keep.grown hg (.inr (by omega)), h.l1.put (by omega) _, h.way'.put (by omega) _, h.tab.old hg (by omega), hf⟩
theorem RqJ.add (h : RqJ w w3 n lb s x r v1 A c k f W) (hg1 : W.grownBy w8 v1.ownBlock) (ht : TabQ w8 (w3.heap.size + 1 + 1 + 1) n v1' A' c' k' f') : RqJ w w3 n lb s x r v1' A' c' k' f' (w8.setCell ⟨w.heap.size, 0, none⟩ v1') := by
  have hs := (Array.getElem?_eq_some_iff.1 h.loop).1
  have hf := h.far
  have b : Below (w3.heap.size + 1 + 1 + 1) W w8 := below_grown hg1 (own_ge h.tab.own1) (by omega)
  have s1 := grown_set (p := ⟨w.heap.size, 0, none⟩) (grown_refl w8 (some w.heap.size)) (.inl rfl) v1'
  have z1 : w8.heap.size ≤ (w8.setCell ⟨w.heap.size, 0, none⟩ v1').heap.size := s1.size
  have z0 : w3.heap.size + 1 + 1 < w8.heap.size := Nat.lt_of_lt_of_le hs b.size
  have same : ∀ i, i < w3.heap.size + 1 + 1 + 1 → i ≠ w.heap.size → (w8.setCell ⟨w.heap.size, 0, none⟩ v1').heap[i]? = W.heap[i]? := fun i hi h1 =>
    (s1.block i (by omega) (by intro e; injection e; omega)).trans (b.block i hi)
  have l8 := h.way'.below b (by omega)
  have w1 : Whole w8 w.heap.size 60 #[v1] := h.l1.below b (by omega)
  refine ⟨(same _ (by omega) (by omega)).trans h.loop, (same _ (by omega) (by omega)).trans h.dfr, (same _ (by omega) (by omega)).trans h.box, ?_, w1.set 0 v1', ?_, ht.old s1 (by omega), hf⟩
  · exact ⟨b.os.trans h.keep.os, b.tape.trans h.keep.tape, b.output.trans h.keep.output, by have := h.keep.size; have := b.size; omega, fun i hi hx => (same i (by omega) (fun e => hx (.inl e))).trans (h.keep.block i hi hx)⟩
  · obtain ⟨_, _, e1⟩ := own_form h.tab.own1
    exact l8.var' (fun n e => by rw [e1] at e; cases e) (by decide) w1 _
end

attribute [local go_sem] Oper.semAt_some
set_option maxRecDepth 100000 in
set_option maxHeartbeats 2000000 in
theorem wayRun_any (s : Way) (soak : Int) (b : Nat) (f : Nat → Int) (snow left : Int) (w : World) (hw : OnWay w b s f snow left) (ok : WayOk s.l s.melt soak s.days s.rain ⟨iAt s.levels, s.tsnow, 0⟩) (h8 : s.levels.length ≤ 8) (h1 : 1 ≤ s.l.length) :
    Calls Try.prog 75 #[.pointer (some ⟨b, 0, none⟩), vi soak] w fun e w' => (∃ v, e = .returned v ∧ vT1 s.l.length s.days.length (fun j i => (stQ s soak (j + 1)).f i) v w') ∧ Below w.heap.size w w' := by
  have HW := Lib.hid hw
  have HOK := Lib.hid ok
  have hbl := hw.blk.lt
  have c0 := hw.blk.at 0 (v := .slice s.A s.l.length s.ap) rfl
  have c1 := hw.blk.at 1 (v := vi s.slo) rfl
  have c2 := hw.blk.at 2 (v := vi s.shi) rfl
  have c3 := hw.blk.at 3 (v := vi s.klo) rfl
  have c4 := hw.blk.at 4 (v := vi s.khi) rfl
  have c5 := hw.blk.at 5 (v := vi s.melt) rfl
  have c6 := hw.blk.at 6 (v := .slice s.D s.days.length s.dp) rfl
  have c7 := hw.blk.at 7 (v := vi s.tsnow) rfl
  have c8 := hw.blk.at 8 (v := vi s.soak) rfl
  have c9 := hw.blk.at 9 (v := .slice s.L s.levels.length s.lp) rfl
  have c10 := hw.blk.at 10 (v := .slice s.R s.rain.length s.rp) rfl
  have d0 := fun o => cell_alloc c0 o
  clear hw ok
  refine callsIn_wide.1 (callsIn_of_wp_marks (n := 9) Try.func75 rfl trivial ?_ rfl)
  simp only [Try.ntmps75, List.size_toArray, List.length_cons, List.length_nil, Nat.reduceAdd, Nat.reduceSub, Array.replicate_succ, Array.replicate_zero, List.push_toArray, List.append_toArray, List.nil_append, List.cons_append]
  have e7 := fun o => cell_alloc c7 o
  have e8 := fun o => cell_alloc c8 o
  have e9 := fun o => cell_alloc c9 o
  have e10 := fun o => cell_alloc c10 o
  gi_wp2_with fail
  have HB0 : Hid (Below w.heap.size w ((w.alloc (.cells #[.slice none 0 0] 60)).alloc (.cells #[vi s.tsnow, vi soak, .slice s.L s.levels.length s.lp, .slice s.R s.rain.length s.rp] 63)) ∧ Whole ((w.alloc (.cells #[.slice none 0 0] 60)).alloc (.cells #[vi s.tsnow, vi soak, .slice s.L s.levels.length s.lp, .slice s.R s.rain.length s.rp] 63)) w.heap.size 60 #[.slice none 0 0] ∧ Whole ((w.alloc (.cells #[.slice none 0 0] 60)).alloc (.cells #[vi s.tsnow, vi soak, .slice s.L s.levels.length s.lp, .slice s.R s.rain.length s.rp] 63)) (w.heap.size + 1) 63 #[vi s.tsnow, vi soak, .slice s.L s.levels.length s.lp, .slice s.R s.rain.length s.rp]) := by
    refine Lib.hid ⟨((Below.refl _ _).alloc (Nat.le_refl _) _).alloc (by simp) _, (Whole.made _ _ _).alloc _, ?_⟩
    have h := Whole.made (w.alloc (.cells #[.slice none 0 0] 60)) 63 #[vi s.tsnow, vi soak, .slice s.L s.levels.length s.lp, .slice s.R s.rain.length s.rp]
    simpa using h
  obtain ⟨wv, hwv⟩ : ∃ wv, wv = (w.alloc (.cells #[.slice none 0 0] 60)).alloc (.cells #[vi s.tsnow, vi soak, .slice s.L s.levels.length s.lp, .slice s.R s.rain.length s.rp] 63) := ⟨_, rfl⟩
  rw [← hwv] at HB0 ⊢
  clear hwv c0 c1 c2 c3 c4 c5 c6 c7 c8 c9 c10 d0 e7 e8 e9 e10
  have HW1 := Lib.hid (HW.out.below HB0.out.1 hbl)
  have c0 := HW1.out.blk.at 0 (v := .slice s.A s.l.length s.ap) rfl
  have c1 := HW1.out.blk.at 1 (v := vi s.slo) rfl
  have c2 := HW1.out.blk.at 2 (v := vi s.shi) rfl
  have c3 := HW1.out.blk.at 3 (v := vi s.klo) rfl
  have c4 := HW1.out.blk.at 4 (v := vi s.khi) rfl
  have c5 := HW1.out.blk.at 5 (v := vi s.melt) rfl
  have c6 := HW1.out.blk.at 6 (v := .slice s.D s.days.length s.dp) rfl
  have t0 := HB0.out.2.2.at 0 (v := vi s.tsnow) rfl
  have t1 := HB0.out.2.2.at 1 (v := vi soak) rfl
  have t2 := HB0.out.2.2.at 2 (v := .slice s.L s.levels.length s.lp) rfl
  have t3 := HB0.out.2.2.at 3 (v := .slice s.R s.rain.length s.rp) rfl
  refine outer_words (by kernel_rfl) (fun _ _ h => h) (region_told 11 (by kernel_rfl) (by kernel_rfl) (fun W => Below wv.heap.size wv W) newer (pickD [vIs (.pointer (some ⟨b, 0, none⟩)), vIs (.pointer (some ⟨b, 0, none⟩)), vIs (.pointer (some ⟨b, 0, none⟩)), vIs (.agg #[.slice s.A s.l.length s.ap, vi s.slo, vi s.shi, vi s.klo, vi s.khi, vi s.melt]), vIs (.pointer (some ⟨b, 0, none⟩)), vIs (.pointer (some ⟨b, 0, none⟩)), vIs (.pointer (some ⟨b, 6, none⟩)), vIs (.slice s.D s.days.length s.dp), vIs (.agg #[vi s.tsnow, vi soak, .slice s.L s.levels.length s.lp, .slice s.R s.rain.length s.rp]), vBeg wv.heap.size (withSoak s soak), vNew wv.heap.size 107 #[.pointer none]]) (fun h k => newer_trans h k) (pickD_stable _ ⟨vIs_st, vIs_st, vIs_st, vIs_st, vIs_st, vIs_st, vIs_st, vIs_st, vIs_st, vBeg_st, vNew_st, trivial⟩) (Below.refl _ wv).drew (Below.refl _ _) ?_ ?_)
  · refine ⟨?_, ?_, ?_, ?_, ?_, ?_, ?_, ?_, ?_, ?_, ?_, trivial⟩
    · intro a W hG hR hO hp
      have h0 := hO.slot 0 (by kernel_rfl)
      refine wp_yields (v := .pointer (some ⟨b, 0, none⟩)) ?_ ⟨_, rfl, rfl, Below.refl _ _, hG⟩
      simp [slotOf] at h0
      simp [execOp, go_sem, h0]
    · intro a W hG hR hO hp
      have h13 : slotOf a 13 = .pointer (some ⟨b, 0, none⟩) := hp.1
      refine wp_yields (v := .pointer (some ⟨b, 0, none⟩)) ?_ ⟨_, rfl, rfl, Below.refl _ _, hG⟩
      simp [slotOf] at h13
      simp [execOp, go_sem, h13]
    · intro a W hG hR hO hp
      have h14 : slotOf a 14 = .pointer (some ⟨b, 0, none⟩) := hp.1
      refine wp_yields (v := .pointer (some ⟨b, 0, none⟩)) ?_ ⟨_, rfl, rfl, Below.refl _ _, hG⟩
      simp [slotOf] at h14
      simp [execOp, go_sem, h14]
    · intro a W hG hR hO hp
      have h15 : slotOf a 15 = .pointer (some ⟨b, 0, none⟩) := hp.1
      have c0 := keep_cell c0 hG
      have c1 := keep_cell c1 hG
      have c2 := keep_cell c2 hG
      have c3 := keep_cell c3 hG
      have c4 := keep_cell c4 hG
      have c5 := keep_cell c5 hG
      refine wp_yields (v := .agg #[.slice s.A s.l.length s.ap, vi s.slo, vi s.shi, vi s.klo, vi s.khi, vi s.melt]) ?_ ⟨_, rfl, rfl, Below.refl _ _, hG⟩
      simp [slotOf] at h15
      simp [execOp, go_sem, h15, c0, c1, c2, c3, c4, c5]
    · intro a W hG hR hO hp
      have h0 := hO.slot 0 (by kernel_rfl)
      refine wp_yields (v := .pointer (some ⟨b, 0, none⟩)) ?_ ⟨_, rfl, rfl, Below.refl _ _, hG⟩
      simp [slotOf] at h0
      simp [execOp, go_sem, h0]
    · intro a W hG hR hO hp
      have h17 : slotOf a 17 = .pointer (some ⟨b, 0, none⟩) := hp.1
      refine wp_yields (v := .pointer (some ⟨b, 0, none⟩)) ?_ ⟨_, rfl, rfl, Below.refl _ _, hG⟩
      simp [slotOf] at h17
      simp [execOp, go_sem, h17]
    · intro a W hG hR hO hp
      have h18 : slotOf a 18 = .pointer (some ⟨b, 0, none⟩) := hp.1
      refine wp_yields (v := .pointer (some ⟨b, 6, none⟩)) ?_ ⟨_, rfl, rfl, Below.refl _ _, hG⟩
      simp [slotOf] at h18
      simp [execOp, go_sem, h18]
    · intro a W hG hR hO hp
      have h19 : slotOf a 19 = .pointer (some ⟨b, 6, none⟩) := hp.1
      have c0 := keep_cell c6 hG
      refine wp_yields (v := .slice s.D s.days.length s.dp) ?_ ⟨_, rfl, rfl, Below.refl _ _, hG⟩
      simp [slotOf] at h19
      simp [execOp, go_sem, h19, c0]
    · intro a W hG hR hO hp
      have h5 := hO.slot 5 (by kernel_rfl)
      have c0 := keep_cell t0 hG
      have c1 := keep_cell t1 hG
      have c2 := keep_cell t2 hG
      have c3 := keep_cell t3 hG
      refine wp_yields (v := .agg #[vi s.tsnow, vi soak, .slice s.L s.levels.length s.lp, .slice s.R s.rain.length s.rp]) ?_ ⟨_, rfl, rfl, Below.refl _ _, hG⟩
      simp [slotOf] at h5
      simp [execOp, go_sem, h5, c0, c1, c2, c3]
    · intro a W hG hR hO hp
      have h16 : slotOf a 16 = .agg #[.slice s.A s.l.length s.ap, vi s.slo, vi s.shi, vi s.klo, vi s.khi, vi s.melt] := hp.1
      have h20 : slotOf a 20 = .slice s.D s.days.length s.dp := hp.2.1
      have h21 : slotOf a 21 = .agg #[vi s.tsnow, vi soak, .slice s.L s.levels.length s.lp, .slice s.R s.rain.length s.rp] := hp.2.2.1
      have hwb := HW1.out.below hG HW1.out.blk.lt
      have hle : b ≤ W.heap.size := by have := HW1.out.blk.lt; have := hG.size; omega
      refine wp_enters (f := 52) (args := #[.agg #[.slice s.A s.l.length s.ap, vi s.slo, vi s.shi, vi s.klo, vi s.khi, vi s.melt], .slice s.D s.days.length s.dp, .agg #[vi s.tsnow, vi soak, .slice s.L s.levels.length s.lp, .slice s.R s.rain.length s.rp]]) ?_ ((begin_any (withSoak s soak) W h8 (hwb.cells.more hle) (hwb.days.more hle) (hwb.levels.more hle) (hwb.rain.more hle)).mono ?_)
      · simp [slotOf] at h16 h20 h21
        simp [go_sem, h16, h20, h21]
      · rintro e w' ⟨lb, rfl, hlb, hway, hb⟩
        exact ⟨_, rfl, _, rfl, ⟨lb, rfl, Nat.le_trans hG.size hlb, hway⟩, hb, below_next hG hb⟩
    · intro a W hG hR hO hp
      refine wp_makes (v := .pointer (some ⟨W.heap.size, 0, none⟩)) (W' := W.alloc (.cells #[.pointer none] 107)) ?_ ⟨_, rfl, ⟨_, rfl, hG.size, Whole.made _ _ _⟩, (Below.refl _ _).alloc (Nat.le_refl _) _, hG.alloc hG.size _⟩
      skip
      simp [execOp, go_sem]
  · intro W hG hR
    rintro _ rfl _ rfl _ rfl _ rfl _ rfl _ rfl _ rfl _ rfl _ rfl _ ⟨lb, rfl, hlb, hway⟩ _ ⟨nb, rfl, hnb, hnw⟩
    change wpList _ _ _ _ _ _
    simp only [Act.put, List.setIfInBounds_toArray, List.set_cons_zero, List.set_cons_succ, List.drop_succ_cons, List.drop_zero]
    have hlb' : w.heap.size < lb := by have := HB0.out.2.2.lt; omega
    have hlv' : w.heap.size < nb := by have := HB0.out.2.2.lt; omega
    have HB1 := Lib.hid (And.intro (below_step HB0.out.1 hG (by have := HB0.out.2.1.lt; omega)) (And.intro (HB0.out.2.1.below hG HB0.out.2.1.lt) (And.intro hway hnw)))
    have x0 := hnw.at 0 rfl
    have f0 := hnw.free 0
    clear hG hR hway hnw c0 c1 c2 c3 c4 c5 c6 t0 t1 t2 t3
    go_wp2_with fail
    refine onlyN_intro ?_
    have HB : Hid (RqB w (withSoak s soak) ⟨iAt s.levels, s.tsnow, 0⟩ nb lb (W.setCell ⟨nb, 0, none⟩ (.pointer (some ⟨lb, 0, none⟩)))) := by
      obtain ⟨ha, hl1, hway, hnw⟩ := HB1.out
      have hne : nb ≠ lb := hway.blk.ne hnw (by decide) |>.symm
      exact Lib.hid ⟨ha.setCell (p := ⟨nb, 0, none⟩) (by dsimp only; omega) _, hl1.far (by dsimp only; omega) _, hnw.set 0 _, hway.var hnw _, hlv', hlb', hne⟩
    obtain ⟨w3', hw3'⟩ : ∃ w3', w3' = W.setCell ⟨nb, 0, none⟩ (.pointer (some ⟨lb, 0, none⟩)) := ⟨_, rfl⟩
    rw [← hw3'] at HB ⊢
    clear hw3' HB1 x0 f0 hlb hnb HB0 HW1
    have x0 := HB.out.var.at 0 rfl
    gi_wp2_with fail
    clear x0
    refine ⟨trivial, (callsIn_wide.2 (after_any _ _)).mono ?_⟩
    rintro e w' ⟨rfl, rfl⟩
    obtain ⟨w3, hw3⟩ : ∃ w3, w3 = w3' := ⟨_, rfl⟩
    rw [← hw3] at HB ⊢
    clear hw3
    gi_wp2_with fail
    refine range_law (gf := 86) (lb := #[.pointer (some ⟨w3.heap.size, 0, none⟩)]) rfl (enters_of Try.func86 (by kernel_rfl) rfl) ?_
    intro r r1 r2 r3 r4 r5 r6
    simp only [World.size_alloc]
    have hcc := HB.out
    have hf1 := hcc.far1
    have hf2 := hcc.far2
    have hlo := hcc.way.blk.lt
    have hvl := hcc.var.lt
    have hok : WayOk (withSoak s soak).l (withSoak s soak).melt (withSoak s soak).soak (withSoak s soak).days (withSoak s soak).rain ⟨iAt s.levels, s.tsnow, 0⟩ := HOK.out
    have hmany := hok.many
    have hl8 := HOK.out.few
    have hm30 := HOK.out.many
    refine (callsIn_wide.1 (after1_in 8 (w3.heap.size + 1 + 1) w3.heap.size lb (withSoak s soak) ⟨iAt s.levels, s.tsnow, 0⟩ hok
      (fun k W => ∃ v1 Af c, RqJ w w3 s.l.length lb (withSoak s soak) (stQ s soak k) r v1 Af c k (fun j i => (stQ s soak (j + 1)).f i) W)
      (fun _ => False) ?hJ ?hY _ ?h0)).mono ?_
    case hJ =>
      rintro k W ⟨v1, Af, c, hj⟩
      exact ⟨hj.box.at 0 rfl, by omega, hj.way'⟩
    case h0 =>
      refine ⟨_, fun _ => none, fun _ => 0, ?_, ?_, ?_, ?_, ((hcc.l1.alloc _).alloc _).alloc _, ((hcc.way.alloc _).alloc _).alloc _, TabQ.empty_ _ _ _ _ _ _, by omega⟩
      · (simp only [heap_if, World.size_alloc]; (repeat rw [if_neg (by omega)]); rfl)
      · (simp only [heap_if, World.size_alloc]; (repeat rw [if_neg (by omega)]); rfl)
      · (simp only [Whole, heap_if, World.size_alloc]; (repeat rw [if_neg (by omega)]); rfl)
      · exact (Kept.refl _ w3).newer ((((Below.refl _ _).alloc (Nat.le_refl _) _).alloc (by simp) _).alloc (by simp; omega) _)
    case hY =>
      rintro k W W' hk ⟨v1, Af, c, hj⟩ hg hw'
      have hj1 := hj.way (x' := stQ s soak (k + 1)) hg hw'
      refine yield_round (r := r) hj1.loop r1 r2 (by rw [r4]; rfl) ?_
      rw [r3, r4, r5, r6]
      simp only [List.zip_toArray, List.zip_cons_cons, List.zip_nil_right, List.foldl_toArray, List.foldl_cons, List.foldl_nil, List.setIfInBounds_toArray, List.set_cons_zero, List.set_cons_succ]
      gi_wp2_with fail
      refine ⟨hj1.loop, ?_⟩
      have hj5 := hj1.put (busyOf r)
      obtain ⟨w7, hw7⟩ : ∃ w7, w7 = W'.putObj (w3.heap.size + 1 + 1) (.loop (busyOf r)) := ⟨_, rfl⟩
      rw [← hw7] at hj5 ⊢
      clear hw7 hj1 hj hg hw' W W'
      obtain ⟨A1, cp1, rfl⟩ := own_form hj5.tab.own1
      have hnv := own_ge hj5.tab.own1
      have hnl := own_lt hj5.tab.own1
      have e1 := hj5.l1.at 0 rfl
      have e3 := (hj5.keep.whole hcc.var (by have := hcc.ne; omega)).at 0 rfl
      have hbase := (Array.getElem?_eq_some_iff.1 hj5.loop).1
      have hbase : w3.heap.size + 1 + 1 + 1 ≤ w7.heap.size := by omega
      have HJ7 := Lib.hid hj5
      obtain ⟨i43, hi0, hz0, hz1, hz2⟩ := info_parts Try.info43
      have HI43 := Lib.hid (And.intro hi0 (And.intro hz0 (And.intro hz1 hz2)))
      have hkd : k < s.days.length := hk
      have HCC := Lib.hid hcc
      clear hi0 hz0 hz1 hz2 hj5 hcc hok r1 r2 r3 r4 r5 r6 HB
      gi_wp2_with fail
      refine round_words (by kernel_rfl) (by kernel_rfl) (fun _ _ h => h) (region_told 4 (by kernel_rfl) (by kernel_rfl) (fun W => Below w7.heap.size w7 W) newer (pickD [vIs (.slice A1 k cp1), vIs (.pointer (some ⟨lb, 0, none⟩)), vRowR w7.heap.size s.l.length (stQ s soak (k + 1)).f, vRow1 w7.heap.size s.l.length (stQ s soak (k + 1)).f]) (fun h k => newer_trans h k) (pickD_stable _ ⟨vIs_st, vIs_st, (fun v W W' h hb => vRowR_grown (row := none) (fun _ e => by cases e) v W W' h (grown_of_newer hb none)), (fun v W W' h hb => vRow1_grown (row := none) (fun _ e => by cases e) v W W' h (grown_of_newer hb none)), trivial⟩) (Below.refl _ w7).drew (Below.refl _ _) ?_ ?_)
      · refine ⟨?_, ?_, ?_, ?_, trivial⟩
        · intro a W hG hR hO hp
          have h4 := hO.slot 4 (by kernel_rfl)
          have c0 := keep_cell e1 hG
          refine wp_yields (v := .slice A1 k cp1) ?_ ⟨_, rfl, rfl, Below.refl _ _, hG⟩
          simp [slotOf] at h4
          simp [execOp, go_sem, h4, c0]
        · intro a W hG hR hO hp
          have h6 := hO.slot 6 (by kernel_rfl)
          have c0 := keep_cell e3 hG
          refine wp_yields (v := .pointer (some ⟨lb, 0, none⟩)) ?_ ⟨_, rfl, rfl, Below.refl _ _, hG⟩
          simp [slotOf] at h6
          simp [execOp, go_sem, h6, c0]
        · intro a W hG hR hO hp
          have h28 : slotOf a 28 = .pointer (some ⟨lb, 0, none⟩) := hp.1
          refine wp_enters (f := 68) (args := #[.pointer (some ⟨lb, 0, none⟩)]) ?_ ((now_any _ _ _ _ _ W ((HJ7.out.newer hG).way') hl8).mono ?_)
          · simp [slotOf] at h28
            simp [go_sem, h28]
          · rintro e w' ⟨Ax, cx, rfl, hr2, hb, hge⟩
            have hr3 : Row intL 1 w' w'.heap.size Ax ((List.range s.l.length).map (stQ s soak (k + 1)).f) := hr2
            exact ⟨_, rfl, _, rfl, ⟨Ax, cx, by simp [withSoak], hr3, fun a e => ⟨Nat.le_trans hG.size (hge a e), row_some hr3 (range_ne h1) a e⟩⟩, hb, below_next hG hb⟩
        · intro a W hG hR hO hp
          have h29 := hp.1
          obtain ⟨Ax, cx, h29, hr3, hge⟩ := h29
          refine wp_makes (v := .slice (some ⟨W.heap.size, 0, none⟩) 1 1) (W' := W.alloc (.cells #[.slice Ax s.l.length cx] 43)) ?_ ⟨_, rfl, ⟨W.heap.size, Ax, cx, rfl, hG.size, Whole.made _ _ _, row_alloc hr3 _, fun a e => ⟨(hge a e).1, by have := (hge a e).2; simp; omega⟩⟩, (Below.refl _ _).alloc (Nat.le_refl _) _, hG.alloc hG.size _⟩
          simp [slotOf] at h29
          simp [execOp, go_sem, h29]
      · intro W hG hR
        rintro _ rfl _ rfl _ _ _ hv1
        change wpList _ _ _ _ _ _
        simp only [Act.put, List.setIfInBounds_toArray, List.set_cons_zero, List.set_cons_succ, List.drop_succ_cons, List.drop_zero]
        have hj7 := HJ7.out
        have hj8 := hj7.newer hG
        obtain ⟨hi0, hz0, hz1, hz2⟩ := HI43.out
        obtain ⟨nb1, Ax, cx, rfl, hnb1, hW1, hrx, hgx⟩ := hv1
        refine wpList_append_lies _ rfl (.tmp 27) (.tmp 30) 60 rfl (w3.heap.size + 1 + 1 + 1) 43 i43 (.slice none 0 0) 1 24 Try.underlying60 hi0 hz0 hz1 hz2 rfl (by omega) _ k _ rfl hj8.tab.own1 ⟨nb1, 0, none⟩ 1 1 [.slice Ax s.l.length cx] rfl rfl (World.news_of_block hW1) (by simp [Value.oneCell']) (by omega) (by unfold maxLen; omega) (by omega) (by have := hG.size; omega) W.heap.size rfl ?_
        intro g2 cp2 w8 hown2 hgrow2 hat2 hlt2
        have ht8 := hj7.tab.add hG hrx hgx hbase hgrow2 hown2 (hat2.imp id (fun e => by omega))
        have hj9 := hj8.add hgrow2 ht8
        have hb8 : Below (w3.heap.size + 1 + 1 + 1) W w8 := below_grown hgrow2 (own_ge hj8.tab.own1) (by have := hG.size; omega)
        have y1 := (hj8.l1.below hb8 (by omega)).at 0 rfl
        have y2 := (hj8.l1.below hb8 (by omega)).free 0
        have HX := Lib.hid (And.intro hj9.loop (hj9.put r))
        clear hj9 ht8 hb8 hown2 hgrow2 hat2 hlt2 hi0 hz0 hz1 hz2 hj7 hj8 hrx hgx hG hR hW1 hnb1 e1 e3 hnv hnl HJ7 HCC
        go_wp2_with fail
        refine onlyN_intro ?_
        gi_wp2_with fail
        exact ⟨HX.out.1, rfl, _, _, _, HX.out.2⟩
    · rintro e W ⟨⟨v, rfl⟩, ⟨v1, Af, c, hj⟩ | hfalse⟩
      · refine ⟨⟨_, rfl⟩, .inl ⟨hj.loop, ?_⟩⟩
        have hdl : (withSoak s soak).days.length = s.days.length := rfl
        rw [hdl] at hj
        clear hdl
        have hj1 := hj.put (overOf r)
        obtain ⟨A1, cp1, rfl⟩ := own_form hj1.tab.own1
        obtain ⟨w7, hw7⟩ : ∃ w7, w7 = W.putObj (w3.heap.size + 1 + 1) (.loop (overOf r)) := ⟨_, rfl⟩
        rw [← hw7] at hj1 ⊢
        have e1 := hj1.l1.at 0 (v := .slice A1 s.days.length cp1) rfl
        have f1 := hj1.l1.free 0
        have HJ7 := Lib.hid hj1
        have HCC := Lib.hid hcc
        clear hj1 hj r1 r2 r3 r4 r5 r6 hcc hw7 HB hok
        gi_wp2_with fail
        rw [setCell_same e1]
        have hj8 := HJ7.out
        have hs8 := (Array.getElem?_eq_some_iff.1 hj8.loop).1
        have d1 := hj8.dfr
        have p1 := grown_putL w7 (w3.heap.size + 1) (.deferred none)
        have b1 : Whole (w7.putObj (w3.heap.size + 1) (.deferred none)) w.heap.size 60 #[.slice A1 s.days.length cp1] := hj8.l1.put (by omega) _
        have x1 := b1.at 0 rfl
        have HX : Hid ((∃ v, Ending.returned (.slice A1 s.days.length cp1) = .returned v ∧ vT1 s.l.length s.days.length (fun j i => (stQ s soak (j + 1)).f i) v (w7.putObj (w3.heap.size + 1) (.deferred none))) ∧ Below w.heap.size w (w7.putObj (w3.heap.size + 1) (.deferred none))) := by
          have t9 := hj8.tab.old p1 (by omega)
          have hk := HCC.out.below.size
          have a1 : Below w.heap.size w w7 := HCC.out.below.trans (hj8.keep.below hk (fun i hi => by omega))
          exact Lib.hid ⟨⟨_, rfl, A1, cp1, Af, c, _, rfl, t9.own1, t9.rows⟩, a1.trans (below_of_grown p1 (by omega) (by omega))⟩
        clear p1 hj8 hs8 HJ7 HCC b1 e1 f1
        refine ⟨by simp, .inl ⟨_, _, rfl, run_takeDeferred d1, ?_⟩⟩
        refine ⟨_, ?_, HX.out⟩
        simp [results, Try.results75, go_sem, x1]
      · exact hfalse.elim
end Go.Proofs.Yteonkhohloabfaa

/- The closures of Learn: are all levels with a soak right by the readings? -/
namespace Go.Proofs.Yteonkhohloabfaa
open Go.RowKit Go.Shelf

theorem least79 (x lo hi : Int) (w : World) : Calls Try.prog 79 #[vi x, .agg #[vi lo, vi hi]] w fun e w' => e = .returned (.bool (decide (lo ≤ x))) ∧ newer w w' := by
  go_enter Try.func79, Try.ntmps79
  go_wp2_with fail
  go_ret
  exact ⟨rfl, newer_allocH _ _⟩
theorem most81 (x lo hi : Int) (w : World) : Calls Try.prog 81 #[vi x, .agg #[vi lo, vi hi]] w fun e w' => e = .returned (.bool (decide (x ≤ hi))) ∧ newer w w' := by
  go_enter Try.func81, Try.ntmps81
  go_wp2_with fail
  go_ret
  exact ⟨rfl, newer_allocH _ _⟩

theorem call79 (args : Array Value) (W : World) : (callFunc 79 args).run Try.prog W = .ok (.enter 79 args) W := by kernel_rfl
theorem call81 (args : Array Value) (W : World) : (callFunc 81 args).run Try.prog W = .ok (.enter 81 args) W := by kernel_rfl
abbrev Rdm := List ((Int × Int) × (Int × Int))
/-- The level at a spot. -/
def lvAt (s : Way) (soak : Int) (p : Int × Int) : Int := (stQ s soak (p.2.toNat + 1)).f p.1.toNat
/-- All levels are right by the readings. -/
def eachB (s : Way) (M : Rdm) (P : Int → Int → Int → Bool) (soak : Int) : Bool := M.all fun p => P (lvAt s soak p.1) p.2.1 p.2.2
def spotsOk (s : Way) (M : Rdm) : Prop := ∀ p ∈ M, 0 ≤ p.1.1 ∧ p.1.1 < s.l.length ∧ 0 ≤ p.1.2 ∧ p.1.2 < s.days.length
/-- What the closures hold. -/
structure LnE (s : Way) (b rb mb mp : Nat) (f : Nat → Int) (snow left : Int) (M : Rdm) (W : World) : Prop where
  way : OnWay W b s f snow left
  run : Whole W rb 137 #[.func (.func 75) #[.pointer (some ⟨b, 0, none⟩)] #[]]
  box : Whole W mb 138 #[.map (some mp)]
  map : RMap spotK spotK mp M W
theorem LnE.next {s : Way} {b rb mb mp : Nat} {f : Nat → Int} {snow left : Int} {M : Rdm} {W W' : World} (h : LnE s b rb mb mp f snow left M W) (hb : newer W W') : LnE s b rb mb mp f snow left M W' :=
  ⟨h.way.below hb h.way.blk.lt, h.run.below hb h.run.lt, h.box.below hb h.box.lt, h.map.next hb⟩

set_option maxRecDepth 100000 in
set_option maxHeartbeats 2000000 in
theorem each_any (F : FuncId) (P : Int → Int → Int → Bool) (hF : ∀ x lo hi W, Calls Try.prog F #[vi x, .agg #[vi lo, vi hi]] W fun e w' => e = .returned (.bool (P x lo hi)) ∧ newer W w') (hC : ∀ (args : Array Value) (W : World), (callFunc F args).run Try.prog W = .ok (.enter F args) W) (s : Way) (b rb mb mp : Nat) (f : Nat → Int) (snow left : Int) (M : Rdm) (soak : Int) (w : World)
    (h : LnE s b rb mb mp f snow left M w) (ok : WayOk s.l s.melt soak s.days s.rain ⟨iAt s.levels, s.tsnow, 0⟩) (h8 : s.levels.length ≤ 8) (h1 : 1 ≤ s.l.length) (hsp : spotsOk s M) :
    Calls Try.prog 77 #[vi soak, .func (.func F) #[] #[], .pointer (some ⟨rb, 0, none⟩), .pointer (some ⟨mb, 0, none⟩)] w fun e w' => e = .returned (.bool (eachB s M P soak)) ∧ newer w w' := by
  have HF := Lib.hid hF
  have HCF := Lib.hid hC
  have HE := Lib.hid h
  have hl8 := ok.few
  have hm30 := ok.many
  have HRUN := Lib.hid (wayRun_any s soak b f snow left w h.way ok h8 h1)
  have HSP := Lib.hid hsp
  have c0 := h.run.at 0 rfl
  clear hF hC h ok hsp
  go_enter Try.func77, Try.ntmps77
  go_wp2_with fail
  refine (HRUN.out).mono ?_
  rintro e w5 ⟨⟨v, rfl, hv⟩, hb5⟩
  have HE5 := Lib.hid (HE.out.next hb5)
  have HV := Lib.hid hv
  have HB5 := Lib.hid hb5
  have hv' := hv
  obtain ⟨Q, cq, Af, cf, bs, rfl, _, _⟩ := hv'
  have c1 := HE5.out.box.at 0 (v := .map (some mp)) rfl
  clear hv hb5 c0 HE HRUN
  go_wp2_with (at_range; refine wpList_range_r _ rfl _ 138 rfl Try.underlying138 mp M rfl HE5.out.map ?_; intro w6 hn6 hit6)
  go_frame
  have HI6 := Lib.hid hit6
  have HN6 := Lib.hid hn6
  clear c1 hit6 hn6
  go_loopw [8, 9] (fun _ _ wr => ∃ seen : Array Nat, RIter spotK spotK mp M w5.heap.size seen wr ∧ newer w5 wr ∧ ∀ j, seen.contains j = true → ∀ p, M[j]? = some p → P (lvAt s soak p.1) p.2.1 p.2.2 = true) (fun _ _ wr => stepsLeft w5.heap.size M.length wr)
  case atStart => exact ⟨#[], HI6.out, HN6.out, fun j hj => by simp at hj⟩
  case round =>
    obtain ⟨seen, hit, hnw, hok⟩ := hrel
    have HIT := Lib.hid hit
    have HNW := Lib.hid hnw
    have HOK := Lib.hid hok
    clear hit hnw hok HI6 HN6
    go_wp2_with (at_next; refine wpList_next_r _ rfl _ rfl mp w5.heap.size M seen rfl HIT.out ?_ ?_; (intro hall; have HALL := Lib.hid hall; clear hall); rotate_left 1; (intro j p w7 hp hs hit7 hbel hsz hoth hen; obtain ⟨⟨c, d⟩, lo, hi⟩ := p; obtain ⟨hc0, hc1, hd0, hd1⟩ := HSP.out _ (List.mem_of_getElem? hp); dsimp only at hc0 hc1 hd0 hd1; obtain ⟨cn, rfl⟩ : ∃ cn : Nat, c = cn := ⟨c.toNat, by omega⟩; obtain ⟨dn, rfl⟩ : ∃ dn : Nat, d = dn := ⟨d.toNat, by omega⟩; have HP := Lib.hid (And.intro hp hs); have HIT7 := Lib.hid hit7; have HBEL := Lib.hid hbel; have HSZ := Lib.hid hsz; clear hp hs hit7 hbel hsz hoth))
    · have hcn : cn < s.l.length := by omega
      have hdn : dn < s.days.length := by omega
      have hdi : (dn : Int) < s.days.length := by omega
      have hci : (cn : Int) < s.l.length := by omega
      have h57 : newer w5 w7 := HNW.out.trans (HBEL.out _ (Nat.le_refl _))
      have h5v : newer w5 ((w7.alloc (.cells #[vi cn, vi dn] 142)).alloc (.cells #[vi lo, vi hi] 36)) := newer_trans (newer_trans h57 (newer_allocH _ _)) (newer_allocH _ _)
      have HBX : Hid (Whole ((w7.alloc (.cells #[vi cn, vi dn] 142)).alloc (.cells #[vi lo, vi hi] 36)) w7.heap.size 142 #[vi cn, vi dn] ∧ Whole ((w7.alloc (.cells #[vi cn, vi dn] 142)).alloc (.cells #[vi lo, vi hi] 36)) (w7.heap.size + 1) 36 #[vi lo, vi hi] ∧ RIter spotK spotK mp M w5.heap.size (seen.push j) ((w7.alloc (.cells #[vi cn, vi dn] 142)).alloc (.cells #[vi lo, vi hi] 36)) ∧ newer w5 ((w7.alloc (.cells #[vi cn, vi dn] 142)).alloc (.cells #[vi lo, vi hi] 36))) := by
        refine Lib.hid ⟨(Whole.made _ _ _).alloc _, ?_, HIT7.out.next (newer_trans (newer_allocH _ _) (newer_allocH _ _)), h5v⟩
        have h := Whole.made (w7.alloc (.cells #[vi cn, vi dn] 142)) 36 #[vi lo, vi hi]
        simpa using h
      obtain ⟨wv, hwv⟩ : ∃ wv, wv = (w7.alloc (.cells #[vi cn, vi dn] 142)).alloc (.cells #[vi lo, vi hi] 36) := ⟨_, rfl⟩
      obtain ⟨k8, hk8⟩ : ∃ k8, k8 = w7.heap.size := ⟨_, rfl⟩
      rw [← hwv, ← hk8] at HBX ⊢
      clear hwv hk8 h57 h5v
      obtain ⟨q1, Ay, cy, e1, y1, hry⟩ := vT1_at (vT1_st _ _ _ HV.out HBX.out.2.2.2) hdn
      obtain ⟨p1, o1, e2, _, z1⟩ := cells_of_row hry hcn
      subst e1
      subst e2
      obtain ⟨xl, hxl⟩ : ∃ xl, xl = (stQ s soak (dn + 1)).f cn := ⟨_, rfl⟩
      rw [← hxl] at z1
      have HXL : Hid (xl = lvAt s soak (cn, dn)) := Lib.hid (by rw [hxl]; unfold lvAt; simp)
      have m0 := HBX.out.1.at 0 (v := vi cn) rfl
      have m1 := HBX.out.1.at 1 (v := vi dn) rfl
      have n0 := HBX.out.2.1.at 0 (v := vi lo) rfl
      have n1 := HBX.out.2.1.at 1 (v := vi hi) rfl
      clear hxl hry hen
      cases hP : P xl lo hi
      · refine wp_words (by kernel_rfl) (region_told 12 (by kernel_rfl) (by kernel_rfl) (fun W => Below wv.heap.size wv W) newer (pickD [vIs (.func (.func F) #[] #[]), vIs (.slice (some ⟨q1, 0, none⟩) s.days.length cq), vIs (.pointer (some ⟨k8, 1, none⟩)), vIs (vi dn), vIs (.pointer (some ⟨q1, dn, none⟩)), vIs (.slice (some ⟨p1, o1, none⟩) s.l.length cy), vIs (.pointer (some ⟨k8, 0, none⟩)), vIs (vi cn), vIs (.pointer (some ⟨p1, o1 + cn, none⟩)), vIs (vi xl), vIs (.agg #[vi lo, vi hi]), vIs (.bool false)]) (fun h k => newer_trans h k) (pickD_stable _ ⟨vIs_st, vIs_st, vIs_st, vIs_st, vIs_st, vIs_st, vIs_st, vIs_st, vIs_st, vIs_st, vIs_st, vIs_st, trivial⟩) (Below.refl _ wv).drew (Below.refl _ _) ?_ ?_)
        · refine ⟨?_, ?_, ?_, ?_, ?_, ?_, ?_, ?_, ?_, ?_, ?_, ?_, trivial⟩
          · intro a W hG hR hO hp
            have h1 := hO.slot 1 (by kernel_rfl)
            refine wp_yields (v := .func (.func F) #[] #[]) ?_ ⟨_, rfl, rfl, Below.refl _ _, hG⟩
            simp [slotOf] at h1
            simp [execOp, go_sem, h1]
          · intro a W hG hR hO hp
            have h7 := hO.slot 7 (by kernel_rfl)
            refine wp_yields (v := .slice (some ⟨q1, 0, none⟩) s.days.length cq) ?_ ⟨_, rfl, rfl, Below.refl _ _, hG⟩
            simp [slotOf] at h7
            simp [execOp, go_sem, h7]
          · intro a W hG hR hO hp
            have h8 := hO.slot 8 (by kernel_rfl)
            refine wp_yields (v := .pointer (some ⟨k8, 1, none⟩)) ?_ ⟨_, rfl, rfl, Below.refl _ _, hG⟩
            simp [slotOf] at h8
            simp [execOp, go_sem, h8]
          · intro a W hG hR hO hp
            have h22 : slotOf a 22 = .pointer (some ⟨k8, 1, none⟩) := hp.1
            have c0 := keep_cell m1 hG
            refine wp_yields (v := vi dn) ?_ ⟨_, rfl, rfl, Below.refl _ _, hG⟩
            simp [slotOf] at h22
            simp [execOp, go_sem, h22, c0]
          · intro a W hG hR hO hp
            have h21 : slotOf a 21 = .slice (some ⟨q1, 0, none⟩) s.days.length cq := hp.1
            have h23 : slotOf a 23 = vi dn := hp.2.1
            refine wp_yields (v := .pointer (some ⟨q1, dn, none⟩)) ?_ ⟨_, rfl, rfl, Below.refl _ _, hG⟩
            simp [slotOf] at h21 h23
            simp [execOp, go_sem, h21, h23, hdi]
          · intro a W hG hR hO hp
            have h24 : slotOf a 24 = .pointer (some ⟨q1, dn, none⟩) := hp.1
            have c0 := keep_cell y1 hG
            refine wp_yields (v := .slice (some ⟨p1, o1, none⟩) s.l.length cy) ?_ ⟨_, rfl, rfl, Below.refl _ _, hG⟩
            simp [slotOf] at h24
            simp [execOp, go_sem, h24, c0]
          · intro a W hG hR hO hp
            have h8 := hO.slot 8 (by kernel_rfl)
            refine wp_yields (v := .pointer (some ⟨k8, 0, none⟩)) ?_ ⟨_, rfl, rfl, Below.refl _ _, hG⟩
            simp [slotOf] at h8
            simp [execOp, go_sem, h8]
          · intro a W hG hR hO hp
            have h26 : slotOf a 26 = .pointer (some ⟨k8, 0, none⟩) := hp.1
            have c0 := keep_cell m0 hG
            refine wp_yields (v := vi cn) ?_ ⟨_, rfl, rfl, Below.refl _ _, hG⟩
            simp [slotOf] at h26
            simp [execOp, go_sem, h26, c0]
          · intro a W hG hR hO hp
            have h25 : slotOf a 25 = .slice (some ⟨p1, o1, none⟩) s.l.length cy := hp.1
            have h27 : slotOf a 27 = vi cn := hp.2.1
            refine wp_yields (v := .pointer (some ⟨p1, o1 + cn, none⟩)) ?_ ⟨_, rfl, rfl, Below.refl _ _, hG⟩
            simp [slotOf] at h25 h27
            simp [execOp, go_sem, h25, h27, hci]
          · intro a W hG hR hO hp
            have h28 : slotOf a 28 = .pointer (some ⟨p1, o1 + cn, none⟩) := hp.1
            have c0 := keep_cell z1 hG
            refine wp_yields (v := vi xl) ?_ ⟨_, rfl, rfl, Below.refl _ _, hG⟩
            simp [slotOf] at h28
            simp [execOp, go_sem, h28, c0]
          · intro a W hG hR hO hp
            have h9 := hO.slot 9 (by kernel_rfl)
            have c0 := keep_cell n0 hG
            have c1 := keep_cell n1 hG
            refine wp_yields (v := .agg #[vi lo, vi hi]) ?_ ⟨_, rfl, rfl, Below.refl _ _, hG⟩
            simp [slotOf] at h9
            simp [execOp, go_sem, h9, c0, c1]
          · intro a W hG hR hO hp
            have h20 : slotOf a 20 = .func (.func F) #[] #[] := hp.1
            have h29 : slotOf a 29 = vi xl := hp.2.1
            have h30 : slotOf a 30 = .agg #[vi lo, vi hi] := hp.2.2.1
            refine wp_enters (f := F) (args := #[vi xl, .agg #[vi lo, vi hi]]) ?_ ((HF.out xl lo hi W).mono ?_)
            · simp [slotOf] at h20 h29 h30
              simp [execOp, go_sem, h20, h29, h30, HCF.out]
            · rintro e w' ⟨rfl, hb⟩
              exact ⟨_, rfl, _, rfl, (by show Value.bool _ = _; rw [hP]), hb, below_next hG hb⟩
        · intro W hG hR
          rintro _ rfl _ rfl _ rfl _ rfl _ rfl _ rfl _ rfl _ rfl _ rfl _ rfl _ rfl _ rfl
          change wpList _ _ _ _ _ _
          simp only [Act.put, List.setIfInBounds_toArray, List.set_cons_zero, List.set_cons_succ, List.drop_succ_cons, List.drop_zero]
          have HR := Lib.hid (And.intro hP hG)
          clear hG hR hP y1 z1 m0 m1 n0 n1
          go_wp2_with fail
          go_ret
          refine ⟨?_, newer_trans HB5.out (newer_trans HBX.out.2.2.2 HR.out.2)⟩
          have hres : eachB s M P soak = false := by
            unfold eachB
            rw [List.all_eq_false]
            exact ⟨_, List.mem_of_getElem? HP.out.1, by rw [← HXL.out, HR.out.1]; decide⟩
          rw [hres]
          rfl
      · refine wp_words (by kernel_rfl) (region_told 12 (by kernel_rfl) (by kernel_rfl) (fun W => Below wv.heap.size wv W) newer (pickD [vIs (.func (.func F) #[] #[]), vIs (.slice (some ⟨q1, 0, none⟩) s.days.length cq), vIs (.pointer (some ⟨k8, 1, none⟩)), vIs (vi dn), vIs (.pointer (some ⟨q1, dn, none⟩)), vIs (.slice (some ⟨p1, o1, none⟩) s.l.length cy), vIs (.pointer (some ⟨k8, 0, none⟩)), vIs (vi cn), vIs (.pointer (some ⟨p1, o1 + cn, none⟩)), vIs (vi xl), vIs (.agg #[vi lo, vi hi]), vIs (.bool true)]) (fun h k => newer_trans h k) (pickD_stable _ ⟨vIs_st, vIs_st, vIs_st, vIs_st, vIs_st, vIs_st, vIs_st, vIs_st, vIs_st, vIs_st, vIs_st, vIs_st, trivial⟩) (Below.refl _ wv).drew (Below.refl _ _) ?_ ?_)
        · refine ⟨?_, ?_, ?_, ?_, ?_, ?_, ?_, ?_, ?_, ?_, ?_, ?_, trivial⟩
          · intro a W hG hR hO hp
            have h1 := hO.slot 1 (by kernel_rfl)
            refine wp_yields (v := .func (.func F) #[] #[]) ?_ ⟨_, rfl, rfl, Below.refl _ _, hG⟩
            simp [slotOf] at h1
            simp [execOp, go_sem, h1]
          · intro a W hG hR hO hp
            have h7 := hO.slot 7 (by kernel_rfl)
            refine wp_yields (v := .slice (some ⟨q1, 0, none⟩) s.days.length cq) ?_ ⟨_, rfl, rfl, Below.refl _ _, hG⟩
            simp [slotOf] at h7
            simp [execOp, go_sem, h7]
          · intro a W hG hR hO hp
            have h8 := hO.slot 8 (by kernel_rfl)
            refine wp_yields (v := .pointer (some ⟨k8, 1, none⟩)) ?_ ⟨_, rfl, rfl, Below.refl _ _, hG⟩
            simp [slotOf] at h8
            simp [execOp, go_sem, h8]
          · intro a W hG hR hO hp
            have h22 : slotOf a 22 = .pointer (some ⟨k8, 1, none⟩) := hp.1
            have c0 := keep_cell m1 hG
            refine wp_yields (v := vi dn) ?_ ⟨_, rfl, rfl, Below.refl _ _, hG⟩
            simp [slotOf] at h22
            simp [execOp, go_sem, h22, c0]
          · intro a W hG hR hO hp
            have h21 : slotOf a 21 = .slice (some ⟨q1, 0, none⟩) s.days.length cq := hp.1
            have h23 : slotOf a 23 = vi dn := hp.2.1
            refine wp_yields (v := .pointer (some ⟨q1, dn, none⟩)) ?_ ⟨_, rfl, rfl, Below.refl _ _, hG⟩
            simp [slotOf] at h21 h23
            simp [execOp, go_sem, h21, h23, hdi]
          · intro a W hG hR hO hp
            have h24 : slotOf a 24 = .pointer (some ⟨q1, dn, none⟩) := hp.1
            have c0 := keep_cell y1 hG
            refine wp_yields (v := .slice (some ⟨p1, o1, none⟩) s.l.length cy) ?_ ⟨_, rfl, rfl, Below.refl _ _, hG⟩
            simp [slotOf] at h24
            simp [execOp, go_sem, h24, c0]
          · intro a W hG hR hO hp
            have h8 := hO.slot 8 (by kernel_rfl)
            refine wp_yields (v := .pointer (some ⟨k8, 0, none⟩)) ?_ ⟨_, rfl, rfl, Below.refl _ _, hG⟩
            simp [slotOf] at h8
            simp [execOp, go_sem, h8]
          · intro a W hG hR hO hp
            have h26 : slotOf a 26 = .pointer (some ⟨k8, 0, none⟩) := hp.1
            have c0 := keep_cell m0 hG
            refine wp_yields (v := vi cn) ?_ ⟨_, rfl, rfl, Below.refl _ _, hG⟩
            simp [slotOf] at h26
            simp [execOp, go_sem, h26, c0]
          · intro a W hG hR hO hp
            have h25 : slotOf a 25 = .slice (some ⟨p1, o1, none⟩) s.l.length cy := hp.1
            have h27 : slotOf a 27 = vi cn := hp.2.1
            refine wp_yields (v := .pointer (some ⟨p1, o1 + cn, none⟩)) ?_ ⟨_, rfl, rfl, Below.refl _ _, hG⟩
            simp [slotOf] at h25 h27
            simp [execOp, go_sem, h25, h27, hci]
          · intro a W hG hR hO hp
            have h28 : slotOf a 28 = .pointer (some ⟨p1, o1 + cn, none⟩) := hp.1
            have c0 := keep_cell z1 hG
            refine wp_yields (v := vi xl) ?_ ⟨_, rfl, rfl, Below.refl _ _, hG⟩
            simp [slotOf] at h28
            simp [execOp, go_sem, h28, c0]
          · intro a W hG hR hO hp
            have h9 := hO.slot 9 (by kernel_rfl)
            have c0 := keep_cell n0 hG
            have c1 := keep_cell n1 hG
            refine wp_yields (v := .agg #[vi lo, vi hi]) ?_ ⟨_, rfl, rfl, Below.refl _ _, hG⟩
            simp [slotOf] at h9
            simp [execOp, go_sem, h9, c0, c1]
          · intro a W hG hR hO hp
            have h20 : slotOf a 20 = .func (.func F) #[] #[] := hp.1
            have h29 : slotOf a 29 = vi xl := hp.2.1
            have h30 : slotOf a 30 = .agg #[vi lo, vi hi] := hp.2.2.1
            refine wp_enters (f := F) (args := #[vi xl, .agg #[vi lo, vi hi]]) ?_ ((HF.out xl lo hi W).mono ?_)
            · simp [slotOf] at h20 h29 h30
              simp [execOp, go_sem, h20, h29, h30, HCF.out]
            · rintro e w' ⟨rfl, hb⟩
              exact ⟨_, rfl, _, rfl, (by show Value.bool _ = _; rw [hP]), hb, below_next hG hb⟩
        · intro W hG hR
          rintro _ rfl _ rfl _ rfl _ rfl _ rfl _ rfl _ rfl _ rfl _ rfl _ rfl _ rfl _ rfl
          change wpList _ _ _ _ _ _
          simp only [Act.put, List.setIfInBounds_toArray, List.set_cons_zero, List.set_cons_succ, List.drop_succ_cons, List.drop_zero]
          have HR := Lib.hid (And.intro hP hG)
          clear hG hR hP y1 z1 m0 m1 n0 n1
          go_wp2_with fail
          refine ⟨⟨seen.push j, HBX.out.2.2.1.next HR.out.2, newer_trans HBX.out.2.2.2 HR.out.2, fun i hi p hp => ?_⟩, ?_⟩
          · by_cases e : i = j
            · subst e
              rw [HP.out.1] at hp
              cases hp
              rw [← HXL.out]
              exact HR.out.1
            · refine HOK.out i ?_ p hp
              simpa [Array.contains_push, e] using hi
          · rw [(HBX.out.2.2.1.next HR.out.2).left, HIT.out.left]
            have := unseen_push (List.getElem?_eq_some_iff.1 HP.out.1).1 HP.out.2
            omega
    · have hres : eachB s M P soak = true := by
        unfold eachB
        rw [List.all_eq_true]
        intro p hp
        obtain ⟨j, hj⟩ := List.mem_iff_getElem?.1 hp
        exact HOK.out j (HALL.out j (List.getElem?_eq_some_iff.1 hj).1) p hj
      have HRES := Lib.hid hres
      clear hres
      go_ret
      exact ⟨by rw [HRES.out]; rfl, newer_trans HB5.out HNW.out⟩
end Go.Proofs.Yteonkhohloabfaa

/- The two searches of Learn. -/
namespace Go.Proofs.Yteonkhohloabfaa
open Go.RowKit Go.Shelf

def geLo (x lo _ : Int) : Bool := decide (lo ≤ x)
def leHi (x _ hi : Int) : Bool := decide (x ≤ hi)
/-- What the searches' tests hold. -/
structure LnF (s : Way) (b rb mb mp eb : Nat) (f : Nat → Int) (snow left : Int) (M : Rdm) (W : World) : Prop where
  ln : LnE s b rb mb mp f snow left M W
  each : Whole W eb 143 #[.func (.func 77) #[] #[.pointer (some ⟨rb, 0, none⟩), .pointer (some ⟨mb, 0, none⟩)]]
theorem LnF.next {s : Way} {b rb mb mp eb : Nat} {f : Nat → Int} {snow left : Int} {M : Rdm} {W W' : World} (h : LnF s b rb mb mp eb f snow left M W) (hb : newer W W') : LnF s b rb mb mp eb f snow left M W' :=
  ⟨h.ln.next hb, h.each.below hb h.each.lt⟩
section
variable {s : Way} {b rb mb mp eb : Nat} {f : Nat → Int} {snow left : Int} {M : Rdm}
theorem test78 (soak : Int) (w : World) (h : LnF s b rb mb mp eb f snow left M w) (ok : WayOk s.l s.melt soak s.days s.rain ⟨iAt s.levels, s.tsnow, 0⟩) (h8 : s.levels.length ≤ 8) (h1 : 1 ≤ s.l.length) (hsp : spotsOk s M) :
    Calls Try.prog 78 #[vi soak, .pointer (some ⟨eb, 0, none⟩)] w fun e w' => e = .returned (.bool (eachB s M geLo soak)) ∧ newer w w' := by
  have HC := Lib.hid (each_any 79 geLo (fun x lo hi W => least79 x lo hi W) call79 s b rb mb mp f snow left M soak w h.ln ok h8 h1 hsp)
  have c0 := h.each.at 0 rfl
  clear h ok hsp
  go_enter Try.func78, Try.ntmps78
  go_wp2_with fail
  refine (HC.out).mono ?_
  rintro e w1 ⟨rfl, hb⟩
  have HB := Lib.hid hb
  clear hb c0
  go_wp2_with fail
  go_ret
  exact ⟨rfl, HB.out⟩
theorem test80 (soak : Int) (w : World) (h : LnF s b rb mb mp eb f snow left M w) (ok : WayOk s.l s.melt soak s.days s.rain ⟨iAt s.levels, s.tsnow, 0⟩) (h8 : s.levels.length ≤ 8) (h1 : 1 ≤ s.l.length) (hsp : spotsOk s M) :
    Calls Try.prog 80 #[vi soak, .pointer (some ⟨eb, 0, none⟩)] w fun e w' => e = .returned (.bool (!eachB s M leHi soak)) ∧ newer w w' := by
  have HC := Lib.hid (each_any 81 leHi (fun x lo hi W => most81 x lo hi W) call81 s b rb mb mp f snow left M soak w h.ln ok h8 h1 hsp)
  have c0 := h.each.at 0 rfl
  clear h ok hsp
  go_enter Try.func80, Try.ntmps80
  go_wp2_with fail
  refine (HC.out).mono ?_
  rintro e w1 ⟨rfl, hb⟩
  have HB := Lib.hid hb
  clear hb c0
  go_wp2_with fail
  go_ret
  exact ⟨rfl, HB.out⟩
end
set_option maxRecDepth 100000 in
set_option maxHeartbeats 1000000 in
theorem lowest78 (p : Int → Bool) (a b : Int) (x1 : Value) (I : World → Prop) (w : World) (ha : 0 ≤ a) (hab : a ≤ b + 1) (hb : b ≤ 1000000) (h0 : I w)
    (hp : ∀ n W, a ≤ n → n ≤ b → I W → Calls Try.prog 78 #[.int .i64 n, x1] W fun e W' => e = .returned (.bool (p n)) ∧ I W') :
    Calls Try.prog 62 #[.int .i64 a, .int .i64 b, .func (.func 78) #[] #[x1]] w (lowestOut p a b I) := by
  have HP := Lib.hid hp
  clear hp
  go_enter Try.func62, Try.ntmps62
  go_wp2
  go_loopw [0, 1, 7] (fun l h _ wr => ∃ low high : Int, l = .int .i64 low ∧ h = .int .i64 high ∧ Halved p a b low high ∧ I wr) (fun l h _ _ => (intOf h + 1 - intOf l).toNat)
  case atStart => exact ⟨a, b, rfl, rfl, ⟨Int.le_refl _, hab, Int.le_refl _, .inl rfl, .inl rfl⟩, h0⟩
  case round =>
    obtain ⟨low, high, rfl, rfl, hh, hI⟩ := hrel
    have l1 := hh.le1
    have l2 := hh.le2
    have l3 := hh.le3
    have HH := Lib.hid hh
    clear hh
    by_cases hlt : low ≤ high
    · have m1 : low ≤ (low + high) / 2 := by omega
      have m2 : (low + high) / 2 ≤ high := by omega
      have HC := Lib.hid (HP.out ((low + high) / 2) wr (by omega) (by omega) hI)
      cases hpm : p ((low + high) / 2)
      · rw [hpm] at HC
        go_wp2_with (go_at_call 78; refine (HC.out).mono ?_; rintro e w1 ⟨rfl, hI1⟩)
        go_roundw
        case rel => exact ⟨(low + high) / 2 + 1, high, rfl, rfl, ⟨by omega, by omega, l3, .inr (by rw [show (low + high) / 2 + 1 - 1 = (low + high) / 2 by omega]; exact hpm), HH.out.upper⟩, hI1⟩
        case measure => simp [intOf]; omega
      · rw [hpm] at HC
        go_wp2_with (go_at_call 78; refine (HC.out).mono ?_; rintro e w1 ⟨rfl, hI1⟩)
        go_roundw
        case rel => exact ⟨low, (low + high) / 2 - 1, rfl, rfl, ⟨l1, by omega, by omega, HH.out.lower, .inr (by rw [show (low + high) / 2 - 1 + 1 = (low + high) / 2 by omega]; exact hpm)⟩, hI1⟩
        case measure => simp [intOf]; omega
    · have e : high = low - 1 := by omega
      subst e
      go_wp2_with fail
      go_ret
      exact ⟨_, rfl, HH.out, hI⟩
set_option maxRecDepth 100000 in
set_option maxHeartbeats 1000000 in
theorem lowest80 (p : Int → Bool) (a b : Int) (x1 : Value) (I : World → Prop) (w : World) (ha : 0 ≤ a) (hab : a ≤ b + 1) (hb : b ≤ 1000000) (h0 : I w)
    (hp : ∀ n W, a ≤ n → n ≤ b → I W → Calls Try.prog 80 #[.int .i64 n, x1] W fun e W' => e = .returned (.bool (p n)) ∧ I W') :
    Calls Try.prog 62 #[.int .i64 a, .int .i64 b, .func (.func 80) #[] #[x1]] w (lowestOut p a b I) := by
  have HP := Lib.hid hp
  clear hp
  go_enter Try.func62, Try.ntmps62
  go_wp2
  go_loopw [0, 1, 7] (fun l h _ wr => ∃ low high : Int, l = .int .i64 low ∧ h = .int .i64 high ∧ Halved p a b low high ∧ I wr) (fun l h _ _ => (intOf h + 1 - intOf l).toNat)
  case atStart => exact ⟨a, b, rfl, rfl, ⟨Int.le_refl _, hab, Int.le_refl _, .inl rfl, .inl rfl⟩, h0⟩
  case round =>
    obtain ⟨low, high, rfl, rfl, hh, hI⟩ := hrel
    have l1 := hh.le1
    have l2 := hh.le2
    have l3 := hh.le3
    have HH := Lib.hid hh
    clear hh
    by_cases hlt : low ≤ high
    · have m1 : low ≤ (low + high) / 2 := by omega
      have m2 : (low + high) / 2 ≤ high := by omega
      have HC := Lib.hid (HP.out ((low + high) / 2) wr (by omega) (by omega) hI)
      cases hpm : p ((low + high) / 2)
      · rw [hpm] at HC
        go_wp2_with (go_at_call 80; refine (HC.out).mono ?_; rintro e w1 ⟨rfl, hI1⟩)
        go_roundw
        case rel => exact ⟨(low + high) / 2 + 1, high, rfl, rfl, ⟨by omega, by omega, l3, .inr (by rw [show (low + high) / 2 + 1 - 1 = (low + high) / 2 by omega]; exact hpm), HH.out.upper⟩, hI1⟩
        case measure => simp [intOf]; omega
      · rw [hpm] at HC
        go_wp2_with (go_at_call 80; refine (HC.out).mono ?_; rintro e w1 ⟨rfl, hI1⟩)
        go_roundw
        case rel => exact ⟨low, (low + high) / 2 - 1, rfl, rfl, ⟨l1, by omega, by omega, HH.out.lower, .inr (by rw [show (low + high) / 2 - 1 + 1 = (low + high) / 2 by omega]; exact hpm)⟩, hI1⟩
        case measure => simp [intOf]; omega
    · have e : high = low - 1 := by omega
      subst e
      go_wp2_with fail
      go_ret
      exact ⟨_, rfl, HH.out, hI⟩

/-! ## What Learn asks, in plain numbers -/
/-- The state after k days, all but the soak known. -/
def stL (g : Gnd) (days : List Day) (soak : Int) (k : Nat) : St := stAt g.cells g.melt soak days (days.map fun d => endOf false d.lo d.hi) (stEnd false g) k
def lvL (g : Gnd) (days : List Day) (soak : Int) (p : Int × Int) : Int := (stL g days soak (p.2.toNat + 1)).f p.1.toNat
def allB (g : Gnd) (days : List Day) (M : Rdm) (P : Int → Int → Int → Bool) (soak : Int) : Bool := M.all fun p => P (lvL g days soak p.1) p.2.1 p.2.2
theorem wayOk_soak {g : Gnd} {days : List Day} (hf : faultN g days = 0) {soak : Int} (h0 : g.klo ≤ soak) (h1 : soak ≤ g.khi) : WayOk g.cells g.melt soak days (days.map fun d => endOf false d.lo d.hi) (stEnd false g) := by
  have ok := wayOk_end false hf
  obtain ⟨hg, _, _⟩ := fault_zero hf
  simp only [gndB, Bool.and_eq_true, inB, upB, decide_eq_true_eq] at hg
  obtain ⟨⟨⟨⟨⟨_, _⟩, _⟩, hk⟩, _⟩, _⟩ := hg
  exact ⟨ok.cells, ok.few, ok.melt0, ok.melt1, by omega, by omega, ok.ds, ok.many, ok.rs, ok.rains, ok.start⟩
/-- The readings' spots are cells and days. -/
theorem readM_spots {n m : Nat} : ∀ (l : List Rdg), (∀ x ∈ l, rdgB n m x = true) → ∀ p ∈ readM l, 0 ≤ p.1.1 ∧ p.1.1 < n ∧ 0 ≤ p.1.2 ∧ p.1.2 < m := by
  intro l
  have key : ∀ (l : List Rdg) (acc : Rdm), (∀ x ∈ l, rdgB n m x = true) → (∀ p ∈ acc, 0 ≤ p.1.1 ∧ p.1.1 < n ∧ 0 ≤ p.1.2 ∧ p.1.2 < m) → ∀ p ∈ l.foldl readStep acc, 0 ≤ p.1.1 ∧ p.1.1 < n ∧ 0 ≤ p.1.2 ∧ p.1.2 < m := by
    intro l
    induction l with
    | nil => intro acc _ h; exact h
    | cons x l ih =>
      intro acc hl hacc
      refine ih _ (fun y hy => hl y (List.mem_cons_of_mem _ hy)) ?_
      intro p hp
      have hx := hl x (List.mem_cons_self)
      simp only [rdgB, inB, Bool.and_eq_true, decide_eq_true_eq] at hx
      unfold readStep putR at hp
      split at hp
      · rcases List.mem_or_eq_of_mem_set hp with hp | rfl
        · exact hacc p hp
        · dsimp only; omega
      · rcases List.mem_append.1 hp with hp | hp
        · exact hacc p hp
        · rw [List.mem_singleton] at hp
          subst hp
          dsimp only; omega
  exact fun h => key l [] h (fun p hp => by cases hp)
end Go.Proofs.Yteonkhohloabfaa

