/- A ground and days of the reference are handed to the program: the same cells and days in new memory. -/
import Derived.Test.YteonkhohloabfaaAE
namespace Go.Proofs.Yteonkhohloabfaa
open Go.RowKit

/-- A box made since. -/
def vBox (B : Nat) (t : TypeId) (cs : Array Value) (v : Value) (W : World) : Prop := ∃ nb, v = .pointer (some ⟨nb, 0, none⟩) ∧ B ≤ nb ∧ Whole W nb t cs
theorem vBox_st {B : Nat} {t : TypeId} {cs : Array Value} : ∀ v W W', vBox B t cs v W → newer W W' → vBox B t cs v W' := fun _ _ _ ⟨nb, h1, h2, h3⟩ hb => ⟨nb, h1, h2, h3.below hb h3.lt⟩
theorem Try.info101 : (Try.prog.info? 101).map (fun i => (i.zero, i.size, i.bytes)) = some (some (.agg #[.int .i64 0, .int .i64 0, .int .i64 0]), 3, 24) := by kernel_rfl

def daysOut (w : World) (days : List Day) (e : Ending) (w' : World) : Prop := ∃ A cp, e = .returned (.slice A days.length cp) ∧ Row dayL 3 w' w'.heap.size A days ∧ Below w.heap.size w w'
set_option maxRecDepth 100000 in
set_option maxHeartbeats 2000000 in
theorem lawDays (days : List Day) (D : Option Addr) (dp : Nat) (w : World) (hm : days.length ≤ 1000) (hd : Row dayL 3 w w.heap.size D days) :
    Calls Try.prog 20 #[.slice D days.length dp] w (daysOut w days) := by
  obtain ⟨i101, hi0, hz0, hz1, hz2⟩ := info_parts Try.info101
  have HI := Lib.hid (And.intro hi0 (And.intro hz0 (And.intro hz1 hz2)))
  clear hi0 hz0 hz1 hz2
  have HD := Lib.hid hd
  clear hd
  go_enter Try.func20, Try.ntmps20
  go_wp2_with fail
  go_loopw [3, 4] (fun s3 s4 wr => ∃ k : Nat, k ≤ days.length ∧ s4 = .int .i64 k ∧ Below w.heap.size w wr ∧ wr.ownsRow w.heap.size 101 3 s3 k ((days.take k).flatMap dayL)) (fun _ s4 _ => days.length - (intOf s4).toNat)
  case atStart => exact ⟨0, Nat.zero_le _, rfl, Below.refl _ _, by simp, .inl ⟨rfl, rfl⟩⟩
  case round =>
    obtain ⟨k, hk, rfl, hbw, hown⟩ := hrel
    by_cases hlt : k < days.length
    · obtain ⟨d, hdk⟩ := get_of_lt hlt
      obtain ⟨b, off, rfl, hb, h0, h1, h2⟩ := row3 (HD.out.below hbw) hdk
      have hkn : (k : Int) < days.length := by omega
      have HDK := Lib.hid hdk
      have HO := Lib.hid hown
      have HB := Lib.hid hbw
      clear hown hbw hdk
      go_wp2_with fail
      refine wp_words (by kernel_rfl) (region_told 14 (by kernel_rfl) (by kernel_rfl) (fun W => Below wr.heap.size wr W) newer (pickD [vIs (u3), vIs (.slice (some ⟨b, off, none⟩) days.length dp), vIs (.int .i64 k), vIs (.pointer (some ⟨b, off + k * 3, none⟩)), vIs (.pointer (some ⟨b, off + k * 3, none⟩)), vIs (.agg #[vi d.lo, vi d.hi]), vIs (.agg #[vi d.lo, vi d.hi]), vIs (.slice (some ⟨b, off, none⟩) days.length dp), vIs (.int .i64 k), vIs (.pointer (some ⟨b, off + k * 3, none⟩)), vIs (.pointer (some ⟨b, off + k * 3 + 2, none⟩)), vIs (vi d.warm), vIs (dayV d), vOne wr.heap.size 101 #[vi d.lo, vi d.hi, vi d.warm]]) (fun h k => newer_trans h k) (pickD_stable _ ⟨vIs_st, vIs_st, vIs_st, vIs_st, vIs_st, vIs_st, vIs_st, vIs_st, vIs_st, vIs_st, vIs_st, vIs_st, vIs_st, vOne_st, trivial⟩) (Below.refl _ wr).drew (Below.refl _ _) ?_ ?_)
      · refine ⟨?_, ?_, ?_, ?_, ?_, ?_, ?_, ?_, ?_, ?_, ?_, ?_, ?_, ?_, trivial⟩
        · intro a W hG hR hO hp
          have h3 := hO.slot 3 (by kernel_rfl)
          refine wp_yields (v := u3) ?_ ⟨_, rfl, rfl, Below.refl _ _, hG⟩
          simp [slotOf] at h3
          simp [execOp, go_sem, h3]
        · intro a W hG hR hO hp
          have h0 := hO.slot 0 (by kernel_rfl)
          refine wp_yields (v := .slice (some ⟨b, off, none⟩) days.length dp) ?_ ⟨_, rfl, rfl, Below.refl _ _, hG⟩
          simp [slotOf] at h0
          simp [execOp, go_sem, h0]
        · intro a W hG hR hO hp
          have h4 := hO.slot 4 (by kernel_rfl)
          refine wp_yields (v := .int .i64 k) ?_ ⟨_, rfl, rfl, Below.refl _ _, hG⟩
          simp [slotOf] at h4
          simp [execOp, go_sem, h4]
        · intro a W hG hR hO hp
          have h12 : slotOf a 12 = .slice (some ⟨b, off, none⟩) days.length dp := hp.1
          have h13 : slotOf a 13 = .int .i64 k := hp.2.1
          refine wp_yields (v := .pointer (some ⟨b, off + k * 3, none⟩)) ?_ ⟨_, rfl, rfl, Below.refl _ _, hG⟩
          simp [slotOf] at h12 h13
          simp [execOp, go_sem, h12, h13, hkn]
        · intro a W hG hR hO hp
          have h14 : slotOf a 14 = .pointer (some ⟨b, off + k * 3, none⟩) := hp.1
          refine wp_yields (v := .pointer (some ⟨b, off + k * 3, none⟩)) ?_ ⟨_, rfl, rfl, Below.refl _ _, hG⟩
          simp [slotOf] at h14
          simp [execOp, go_sem, h14]
        · intro a W hG hR hO hp
          have h15 : slotOf a 15 = .pointer (some ⟨b, off + k * 3, none⟩) := hp.1
          have c0 := keep_cell h0 hG
          have c1 := keep_cell h1 hG
          refine wp_yields (v := .agg #[vi d.lo, vi d.hi]) ?_ ⟨_, rfl, rfl, Below.refl _ _, hG⟩
          simp [slotOf] at h15
          simp [execOp, go_sem, h15, c0, c1]
        · intro a W hG hR hO hp
          have h16 : slotOf a 16 = .agg #[vi d.lo, vi d.hi] := hp.1
          refine wp_enters (f := 57) (args := #[.agg #[vi d.lo, vi d.hi]]) ?_ ((to_any d.lo d.hi W).mono ?_)
          · simp [slotOf] at h16
            simp [go_sem, h16]
          · rintro e w' ⟨rfl, hb⟩
            exact ⟨_, rfl, _, rfl, rfl, hb, below_next hG hb⟩
        · intro a W hG hR hO hp
          have h0 := hO.slot 0 (by kernel_rfl)
          refine wp_yields (v := .slice (some ⟨b, off, none⟩) days.length dp) ?_ ⟨_, rfl, rfl, Below.refl _ _, hG⟩
          simp [slotOf] at h0
          simp [execOp, go_sem, h0]
        · intro a W hG hR hO hp
          have h4 := hO.slot 4 (by kernel_rfl)
          refine wp_yields (v := .int .i64 k) ?_ ⟨_, rfl, rfl, Below.refl _ _, hG⟩
          simp [slotOf] at h4
          simp [execOp, go_sem, h4]
        · intro a W hG hR hO hp
          have h18 : slotOf a 18 = .slice (some ⟨b, off, none⟩) days.length dp := hp.1
          have h19 : slotOf a 19 = .int .i64 k := hp.2.1
          refine wp_yields (v := .pointer (some ⟨b, off + k * 3, none⟩)) ?_ ⟨_, rfl, rfl, Below.refl _ _, hG⟩
          simp [slotOf] at h18 h19
          simp [execOp, go_sem, h18, h19, hkn]
        · intro a W hG hR hO hp
          have h20 : slotOf a 20 = .pointer (some ⟨b, off + k * 3, none⟩) := hp.1
          refine wp_yields (v := .pointer (some ⟨b, off + k * 3 + 2, none⟩)) ?_ ⟨_, rfl, rfl, Below.refl _ _, hG⟩
          simp [slotOf] at h20
          simp [execOp, go_sem, h20]
        · intro a W hG hR hO hp
          have h21 : slotOf a 21 = .pointer (some ⟨b, off + k * 3 + 2, none⟩) := hp.1
          have c0 := keep_cell h2 hG
          refine wp_yields (v := vi d.warm) ?_ ⟨_, rfl, rfl, Below.refl _ _, hG⟩
          simp [slotOf] at h21
          simp [execOp, go_sem, h21, c0]
        · intro a W hG hR hO hp
          have h17 : slotOf a 17 = .agg #[vi d.lo, vi d.hi] := hp.1
          have h22 : slotOf a 22 = vi d.warm := hp.2.1
          refine wp_yields (v := dayV d) ?_ ⟨_, rfl, rfl, Below.refl _ _, hG⟩
          simp [slotOf] at h17 h22
          simp [execOp, go_sem, h17, h22]
        · intro a W hG hR hO hp
          have h23 : slotOf a 23 = dayV d := hp.1
          refine wp_makes (v := .slice (some ⟨W.heap.size, 0, none⟩) 1 1) (W' := W.alloc (.cells #[vi d.lo, vi d.hi, vi d.warm] 101)) ?_ ⟨_, rfl, ⟨_, rfl, hG.size, Whole.made _ _ _⟩, (Below.refl _ _).alloc (Nat.le_refl _) _, hG.alloc hG.size _⟩
          simp [slotOf] at h23
          simp [execOp, go_sem, h23]
      · intro W hG hR
        rintro _ rfl _ rfl _ rfl _ rfl _ rfl _ rfl _ rfl _ rfl _ rfl _ rfl _ rfl _ rfl _ rfl _ ⟨nb1, rfl, hnb1, hW1⟩
        change wpList _ _ _ _ _ _
        simp only [Act.put, List.setIfInBounds_toArray, List.set_cons_zero, List.set_cons_succ, List.drop_succ_cons, List.drop_zero]
        have HO2 := Lib.hid (own_below HO.out hG)
        have HNW := Lib.hid (World.news_of_block hW1)
        have HB2 := Lib.hid (below_next HB.out hG)
        have hbs := (below_next HB.out hG).size
        obtain ⟨hi0, hz0, hz1, hz2⟩ := HI.out
        clear hG hR hnb1 hW1 h0 h1 h2
        go_wp2_with (at_builtin; go_loud ((refine wpList_append_lies _ rfl (.tmp 11) (.tmp 24) 40 rfl w.heap.size 101 i101 (.agg #[.int .i64 0, .int .i64 0, .int .i64 0]) 3 24 Try.underlying40 hi0 hz0 hz1 hz2 rfl (by omega) _ k _ rfl HO2.out ⟨nb1, 0, none⟩ 1 1 (dayL d) rfl rfl HNW.out (by simp [Value.oneCell']) (by omega) (by unfold maxLen; omega) (by omega) hbs W.heap.size rfl ?_); intro gg cp2 w2 hown2 hgrow2 hat2 hlt2; rw [← take_flat dayL days k d HDK.out] at hown2; have HO3 := Lib.hid hown2; have HB3 := Lib.hid ((HB2.out).grown hgrow2 hbs (own_ge HO2.out)); clear hown2 hgrow2 hat2 hi0 hz0 hz1 hz2))
        go_roundw
        case rel => exact ⟨k + 1, by omega, by go_num, HB3.out, HO3.out⟩
        case measure => simp [intOf]; omega
    · have hkn : k = days.length := by omega
      subst hkn
      rw [List.take_of_length_le (Nat.le_refl _)] at hown
      obtain ⟨A2, c2, rfl⟩ := own_form hown
      have HF := Lib.hid (And.intro hbw hown)
      clear hbw hown
      go_wp2_with fail
      go_ret
      exact ⟨A2, c2, rfl, row_of_own (by omega) (fun _ => rfl) HF.out.2, HF.out.1⟩

/-- Ground under way. -/
structure GrMid (w : World) (gcs : Array Value) (ob : Nat) (lv : Value) (g : Gnd) (W : World) : Prop where
  below : Below w.heap.size w W
  gb : Whole W w.heap.size 26 gcs
  rb : Whole W (w.heap.size + 1) 38 #[.slice none 0 0, vi 0, vi 0, vi 0, vi 0, vi 0]
  ot : Whole W ob 38 #[lv, vi g.slo, vi g.shi, vi g.klo, vi g.khi, vi g.melt]
  far : w.heap.size + 1 < ob
section
variable {w : World} {gcs : Array Value} {ob : Nat} {lv : Value} {g : Gnd} {W W' : World}
theorem GrMid.newer (h : GrMid w gcs ob lv g W) (hb : newer W W') : GrMid w gcs ob lv g W' :=
  ⟨below_next h.below hb, h.gb.below hb h.gb.lt, h.rb.below hb h.rb.lt, h.ot.below hb h.ot.lt, h.far⟩
theorem GrMid.grown (h : GrMid w gcs ob lv g W) {v : Value} {n : Nat} {xs : List Value} (ho : W.ownsRow w.heap.size 99 7 v n xs) (hg : W.grownBy W' v.ownBlock) : GrMid w gcs ob lv g W' :=
  ⟨h.below.grown hg h.below.size (own_ge ho), h.gb.grown hg (own_ne ho h.gb (by decide)).symm, h.rb.grown hg (own_ne ho h.rb (by decide)).symm, h.ot.grown hg (own_ne ho h.ot (by decide)).symm, h.far⟩
theorem GrMid.set (h : GrMid w gcs ob lv g W) (u : Value) : GrMid w gcs ob u g (W.setCell ⟨ob, 0, none⟩ u) := by
  have hf := h.far
  exact ⟨h.below.setCell (p := ⟨ob, 0, none⟩) (by dsimp only; omega) _, h.gb.far (by dsimp only; omega) _, h.rb.far (by dsimp only; omega) _, h.ot.set 0 u, hf⟩
end
def groundOut (w : World) (g : Gnd) (e : Ending) (w' : World) : Prop := ∃ A cp, e = .returned (gndV A cp g) ∧ Row cellL 7 w' w'.heap.size A g.cells ∧ Below w.heap.size w w'
set_option maxRecDepth 100000 in
set_option maxHeartbeats 2000000 in
theorem lawGround (g : Gnd) (A : Option Addr) (ap : Nat) (w : World) (hn : g.cells.length ≤ 1000) (hc : Row cellL 7 w w.heap.size A g.cells) :
    Calls Try.prog 19 #[gndV A ap g] w (groundOut w g) := by
  obtain ⟨i99, hi0, hz0, hz1, hz2⟩ := info_parts Try.info99
  have HI := Lib.hid (And.intro hi0 (And.intro hz0 (And.intro hz1 hz2)))
  clear hi0 hz0 hz1 hz2
  have HC := Lib.hid hc
  clear hc
  go_enter Try.func19, Try.ntmps19
  go_wp2_with fail
  refine gen_world (fun W => Below w.heap.size w W ∧ Whole W w.heap.size 26 (gndC A ap g) ∧ Whole W (w.heap.size + 1) 38 #[.slice none 0 0, vi 0, vi 0, vi 0, vi 0, vi 0]) ⟨((Below.refl _ _).alloc (Nat.le_refl _) _).alloc (by simp) _, (Whole.made w 26 _).alloc _, ?_⟩ ?_
  · have := Whole.made (w.alloc (.cells (gndC A ap g) 26)) 38 #[.slice none 0 0, vi 0, vi 0, vi 0, vi 0, vi 0]
    rw [World.size_alloc] at this
    exact this
  rintro wv ⟨hbv, hgv, hrv⟩
  have g1 := hgv.at 1 (v := vi g.slo) rfl
  have g2 := hgv.at 2 (v := vi g.shi) rfl
  have g3 := hgv.at 3 (v := vi g.klo) rfl
  have g4 := hgv.at 4 (v := vi g.khi) rfl
  have g5 := hgv.at 5 (v := vi g.melt) rfl
  have HV := Lib.hid (And.intro hbv (And.intro hgv hrv))
  have hlv := hrv.lt
  clear hbv hgv hrv
  refine wp_words (by kernel_rfl) (region_told 10 (by kernel_rfl) (by kernel_rfl) (fun W => Below wv.heap.size wv W) newer (pickD [vIs (.pointer (some ⟨w.heap.size, 1, none⟩)), vIs (.agg #[vi g.slo, vi g.shi]), vIs (.agg #[vi g.slo, vi g.shi]), vIs (.pointer (some ⟨w.heap.size, 3, none⟩)), vIs (.agg #[vi g.klo, vi g.khi]), vIs (.agg #[vi g.klo, vi g.khi]), vIs (.pointer (some ⟨w.heap.size, 5, none⟩)), vIs (vi g.melt), vIs (.agg #[.slice none 0 0, vi g.slo, vi g.shi, vi g.klo, vi g.khi, vi g.melt]), vBox wv.heap.size 38 #[.slice none 0 0, vi 0, vi 0, vi 0, vi 0, vi 0]]) (fun h k => newer_trans h k) (pickD_stable _ ⟨vIs_st, vIs_st, vIs_st, vIs_st, vIs_st, vIs_st, vIs_st, vIs_st, vIs_st, vBox_st, trivial⟩) (Below.refl _ wv).drew (Below.refl _ _) ?_ ?_)
  · refine ⟨?_, ?_, ?_, ?_, ?_, ?_, ?_, ?_, ?_, ?_, trivial⟩
    · intro a W hG hR hO hp
      have h1 := hO.slot 1 (by kernel_rfl)
      refine wp_yields (v := .pointer (some ⟨w.heap.size, 1, none⟩)) ?_ ⟨_, rfl, rfl, Below.refl _ _, hG⟩
      simp [slotOf] at h1
      simp [execOp, go_sem, h1]
    · intro a W hG hR hO hp
      have h6 : slotOf a 6 = .pointer (some ⟨w.heap.size, 1, none⟩) := hp.1
      have c0 := keep_cell g1 hG
      have c1 := keep_cell g2 hG
      refine wp_yields (v := .agg #[vi g.slo, vi g.shi]) ?_ ⟨_, rfl, rfl, Below.refl _ _, hG⟩
      simp [slotOf] at h6
      simp [execOp, go_sem, h6, c0, c1]
    · intro a W hG hR hO hp
      have h7 : slotOf a 7 = .agg #[vi g.slo, vi g.shi] := hp.1
      refine wp_enters (f := 57) (args := #[.agg #[vi g.slo, vi g.shi]]) ?_ ((to_any g.slo g.shi W).mono ?_)
      · simp [slotOf] at h7
        simp [go_sem, h7]
      · rintro e w' ⟨rfl, hb⟩
        exact ⟨_, rfl, _, rfl, rfl, hb, below_next hG hb⟩
    · intro a W hG hR hO hp
      have h1 := hO.slot 1 (by kernel_rfl)
      refine wp_yields (v := .pointer (some ⟨w.heap.size, 3, none⟩)) ?_ ⟨_, rfl, rfl, Below.refl _ _, hG⟩
      simp [slotOf] at h1
      simp [execOp, go_sem, h1]
    · intro a W hG hR hO hp
      have h9 : slotOf a 9 = .pointer (some ⟨w.heap.size, 3, none⟩) := hp.1
      have c0 := keep_cell g3 hG
      have c1 := keep_cell g4 hG
      refine wp_yields (v := .agg #[vi g.klo, vi g.khi]) ?_ ⟨_, rfl, rfl, Below.refl _ _, hG⟩
      simp [slotOf] at h9
      simp [execOp, go_sem, h9, c0, c1]
    · intro a W hG hR hO hp
      have h10 : slotOf a 10 = .agg #[vi g.klo, vi g.khi] := hp.1
      refine wp_enters (f := 57) (args := #[.agg #[vi g.klo, vi g.khi]]) ?_ ((to_any g.klo g.khi W).mono ?_)
      · simp [slotOf] at h10
        simp [go_sem, h10]
      · rintro e w' ⟨rfl, hb⟩
        exact ⟨_, rfl, _, rfl, rfl, hb, below_next hG hb⟩
    · intro a W hG hR hO hp
      have h1 := hO.slot 1 (by kernel_rfl)
      refine wp_yields (v := .pointer (some ⟨w.heap.size, 5, none⟩)) ?_ ⟨_, rfl, rfl, Below.refl _ _, hG⟩
      simp [slotOf] at h1
      simp [execOp, go_sem, h1]
    · intro a W hG hR hO hp
      have h12 : slotOf a 12 = .pointer (some ⟨w.heap.size, 5, none⟩) := hp.1
      have c0 := keep_cell g5 hG
      refine wp_yields (v := vi g.melt) ?_ ⟨_, rfl, rfl, Below.refl _ _, hG⟩
      simp [slotOf] at h12
      simp [execOp, go_sem, h12, c0]
    · intro a W hG hR hO hp
      have h8 : slotOf a 8 = .agg #[vi g.slo, vi g.shi] := hp.1
      have h11 : slotOf a 11 = .agg #[vi g.klo, vi g.khi] := hp.2.1
      have h13 : slotOf a 13 = vi g.melt := hp.2.2.1
      refine wp_yields (v := .agg #[.slice none 0 0, vi g.slo, vi g.shi, vi g.klo, vi g.khi, vi g.melt]) ?_ ⟨_, rfl, rfl, Below.refl _ _, hG⟩
      simp [slotOf] at h8 h11 h13
      simp [execOp, go_sem, h8, h11, h13]
    · intro a W hG hR hO hp
      refine wp_makes (v := .pointer (some ⟨W.heap.size, 0, none⟩)) (W' := W.alloc (.cells #[.slice none 0 0, vi 0, vi 0, vi 0, vi 0, vi 0] 38)) ?_ ⟨_, rfl, ⟨_, rfl, hG.size, Whole.made _ _ _⟩, (Below.refl _ _).alloc (Nat.le_refl _) _, hG.alloc hG.size _⟩
      skip
      simp [execOp, go_sem]
  · intro W hG hR
    rintro _ rfl _ rfl _ rfl _ rfl _ rfl _ rfl _ rfl _ rfl _ rfl _ ⟨ob, rfl, hob, hW1⟩
    change wpList _ _ _ _ _ _
    simp only [Act.put, List.setIfInBounds_toArray, List.set_cons_zero, List.set_cons_succ, List.drop_succ_cons, List.drop_zero]
    have o0 := hW1.at 0 rfl
    have o1 := hW1.at 1 rfl
    have o2 := hW1.at 2 rfl
    have o3 := hW1.at 3 rfl
    have o4 := hW1.at 4 rfl
    have o5 := hW1.at 5 rfl
    have p0 := hW1.free 0
    have p1 := hW1.free 1
    have p2 := hW1.free 2
    have p3 := hW1.free 3
    have p4 := hW1.free 4
    have p5 := hW1.free 5
    have HM : Hid (∀ W', W' = (((((W.setCell ⟨ob, 0, none⟩ (.slice none 0 0)).setCell ⟨ob, 1, none⟩ (vi g.slo)).setCell ⟨ob, 2, none⟩ (vi g.shi)).setCell ⟨ob, 3, none⟩ (vi g.klo)).setCell ⟨ob, 4, none⟩ (vi g.khi)).setCell ⟨ob, 5, none⟩ (vi g.melt) → GrMid w (gndC A ap g) ob (.slice none 0 0) g W') := by
      rintro W' rfl
      obtain ⟨hbv, hgv, hrv⟩ := HV.out
      have hb := below_next hbv hG
      have hob : w.heap.size + 1 < ob := by omega
      have s : ∀ {X : World} {u : Value} {i : Nat}, Below w.heap.size w X → Below w.heap.size w (X.setCell ⟨ob, i, none⟩ u) := fun h => h.setCell (p := ⟨ob, _, none⟩) (by dsimp only; omega) _
      have q : ∀ {X : World} {t : TypeId} {cs : Array Value} {u : Value} {i b : Nat}, b ≠ ob → Whole X b t cs → Whole (X.setCell ⟨ob, i, none⟩ u) b t cs := fun hne h => h.far hne _
      exact ⟨s (s (s (s (s (s hb))))), q (by omega) (q (by omega) (q (by omega) (q (by omega) (q (by omega) (q (by omega) (hgv.below hG hgv.lt)))))), q (by omega) (q (by omega) (q (by omega) (q (by omega) (q (by omega) (q (by omega) (hrv.below hG hrv.lt)))))), (((((hW1.set 0 _).set 1 _).set 2 _).set 3 _).set 4 _).set 5 _, hob⟩
    clear hW1 hG hR HV g1 g2 g3 g4 g5 hlv
    go_wp2_with fail
    go_loopw [4] (fun s4 wr => ∃ k : Nat, k ≤ g.cells.length ∧ s4 = .int .i64 k ∧ ∃ lv, GrMid w (gndC A ap g) ob lv g wr ∧ wr.ownsRow w.heap.size 99 7 lv k ((g.cells.take k).flatMap cellL)) (fun s4 _ => g.cells.length - (intOf s4).toNat)
    case atStart => exact ⟨0, Nat.zero_le _, rfl, _, HM.out _ rfl, by simp, .inl ⟨rfl, rfl⟩⟩
    case round =>
      obtain ⟨k, hk, rfl, lv, hm, hown⟩ := hrel
      clear HM o0 o1 o2 o3 o4 o5 p0 p1 p2 p3 p4 p5
      have e0 := hm.gb.at 0 (v := .slice A g.cells.length ap) rfl
      by_cases hlt : k < g.cells.length
      · obtain ⟨c, hck⟩ := get_of_lt hlt
        obtain ⟨b, off, rfl, hb, h0, h1, h2, h3, h4, h5, h6⟩ := row7 (HC.out.below hm.below) hck
        have hkn : (k : Int) < g.cells.length := by omega
        obtain ⟨cb, hcb⟩ : ∃ cb, cb = wr.heap.size := ⟨_, rfl⟩
        have HCK := Lib.hid hck
        have HG : Hid ((GrMid w (gndC (some ⟨b, off, none⟩) ap g) ob lv g (wr.alloc (.cells (cellC c) 74)) ∧ (wr.alloc (.cells (cellC c) 74)).ownsRow w.heap.size 99 7 lv k ((g.cells.take k).flatMap cellL)) ∧ Whole (wr.alloc (.cells (cellC c) 74)) wr.heap.size 74 (cellC c)) :=
          ⟨⟨hm.newer ((Below.refl _ _).alloc (Nat.le_refl _) _), own_below hown ((Below.refl _ _).alloc (Nat.le_refl _) _)⟩, Whole.made _ _ _⟩
        clear hm hown hck
        go_upto_region 6 with fail
        rw [← hcb] at HG ⊢
        clear hcb h0 h1 h2 h3 h4 h5 h6 e0
        refine gen_world (fun W => (GrMid w (gndC (some ⟨b, off, none⟩) ap g) ob lv g W ∧ W.ownsRow w.heap.size 99 7 lv k ((g.cells.take k).flatMap cellL)) ∧ Whole W cb 74 (cellC c)) HG.out ?_
        rintro wv ⟨⟨hm, hown⟩, hcw⟩
        clear HG
        have e0 := hm.ot.at 0 rfl
        have c0 := hcw.at 0 rfl
        have c1 := hcw.at 1 rfl
        have c2 := hcw.at 2 rfl
        have c3 := hcw.at 3 rfl
        have c4 := hcw.at 4 rfl
        have c5 := hcw.at 5 rfl
        have c6 := hcw.at 6 rfl
        have HM := Lib.hid hm
        have HO := Lib.hid hown
        clear hm hown hcw
        refine wp_words (by kernel_rfl) (region_told 17 (by kernel_rfl) (by kernel_rfl) (fun W => Below wv.heap.size wv W) newer (pickD [vIs (.pointer (some ⟨ob, 0, none⟩)), vIs (lv), vIs (.pointer (some ⟨cb, 0, none⟩)), vIs (.agg #[vi c.lo, vi c.hi]), vIs (.agg #[vi c.lo, vi c.hi]), vIs (.pointer (some ⟨cb, 2, none⟩)), vIs (vi c.cap), vIs (.pointer (some ⟨cb, 3, none⟩)), vIs (vi c.keep), vIs (.pointer (some ⟨cb, 4, none⟩)), vIs (vi c.pass), vIs (.pointer (some ⟨cb, 5, none⟩)), vIs (vi c.to), vIs (.pointer (some ⟨cb, 6, none⟩)), vIs (vi c.pump), vIs (cellV c), vOne wv.heap.size 99 (cellC c)]) (fun h k => newer_trans h k) (pickD_stable _ ⟨vIs_st, vIs_st, vIs_st, vIs_st, vIs_st, vIs_st, vIs_st, vIs_st, vIs_st, vIs_st, vIs_st, vIs_st, vIs_st, vIs_st, vIs_st, vIs_st, vOne_st, trivial⟩) (Below.refl _ wv).drew (Below.refl _ _) ?_ ?_)
        · refine ⟨?_, ?_, ?_, ?_, ?_, ?_, ?_, ?_, ?_, ?_, ?_, ?_, ?_, ?_, ?_, ?_, ?_, trivial⟩
          · intro a W hG hR hO hp
            have h3 := hO.slot 3 (by kernel_rfl)
            refine wp_yields (v := .pointer (some ⟨ob, 0, none⟩)) ?_ ⟨_, rfl, rfl, Below.refl _ _, hG⟩
            simp [slotOf] at h3
            simp [execOp, go_sem, h3]
          · intro a W hG hR hO hp
            have h27 : slotOf a 27 = .pointer (some ⟨ob, 0, none⟩) := hp.1
            have d0 := keep_cell e0 hG
            refine wp_yields (v := lv) ?_ ⟨_, rfl, rfl, Below.refl _ _, hG⟩
            simp [slotOf] at h27
            simp [execOp, go_sem, h27, d0]
          · intro a W hG hR hO hp
            have h5 := hO.slot 5 (by kernel_rfl)
            refine wp_yields (v := .pointer (some ⟨cb, 0, none⟩)) ?_ ⟨_, rfl, rfl, Below.refl _ _, hG⟩
            simp [slotOf] at h5
            simp [execOp, go_sem, h5]
          · intro a W hG hR hO hp
            have h29 : slotOf a 29 = .pointer (some ⟨cb, 0, none⟩) := hp.1
            have d0 := keep_cell c0 hG
            have d1 := keep_cell c1 hG
            refine wp_yields (v := .agg #[vi c.lo, vi c.hi]) ?_ ⟨_, rfl, rfl, Below.refl _ _, hG⟩
            simp [slotOf] at h29
            simp [execOp, go_sem, h29, d0, d1]
          · intro a W hG hR hO hp
            have h30 : slotOf a 30 = .agg #[vi c.lo, vi c.hi] := hp.1
            refine wp_enters (f := 57) (args := #[.agg #[vi c.lo, vi c.hi]]) ?_ ((to_any c.lo c.hi W).mono ?_)
            · simp [slotOf] at h30
              simp [go_sem, h30]
            · rintro e w' ⟨rfl, hb⟩
              exact ⟨_, rfl, _, rfl, rfl, hb, below_next hG hb⟩
          · intro a W hG hR hO hp
            have h5 := hO.slot 5 (by kernel_rfl)
            refine wp_yields (v := .pointer (some ⟨cb, 2, none⟩)) ?_ ⟨_, rfl, rfl, Below.refl _ _, hG⟩
            simp [slotOf] at h5
            simp [execOp, go_sem, h5]
          · intro a W hG hR hO hp
            have h32 : slotOf a 32 = .pointer (some ⟨cb, 2, none⟩) := hp.1
            have d0 := keep_cell c2 hG
            refine wp_yields (v := vi c.cap) ?_ ⟨_, rfl, rfl, Below.refl _ _, hG⟩
            simp [slotOf] at h32
            simp [execOp, go_sem, h32, d0]
          · intro a W hG hR hO hp
            have h5 := hO.slot 5 (by kernel_rfl)
            refine wp_yields (v := .pointer (some ⟨cb, 3, none⟩)) ?_ ⟨_, rfl, rfl, Below.refl _ _, hG⟩
            simp [slotOf] at h5
            simp [execOp, go_sem, h5]
          · intro a W hG hR hO hp
            have h34 : slotOf a 34 = .pointer (some ⟨cb, 3, none⟩) := hp.1
            have d0 := keep_cell c3 hG
            refine wp_yields (v := vi c.keep) ?_ ⟨_, rfl, rfl, Below.refl _ _, hG⟩
            simp [slotOf] at h34
            simp [execOp, go_sem, h34, d0]
          · intro a W hG hR hO hp
            have h5 := hO.slot 5 (by kernel_rfl)
            refine wp_yields (v := .pointer (some ⟨cb, 4, none⟩)) ?_ ⟨_, rfl, rfl, Below.refl _ _, hG⟩
            simp [slotOf] at h5
            simp [execOp, go_sem, h5]
          · intro a W hG hR hO hp
            have h36 : slotOf a 36 = .pointer (some ⟨cb, 4, none⟩) := hp.1
            have d0 := keep_cell c4 hG
            refine wp_yields (v := vi c.pass) ?_ ⟨_, rfl, rfl, Below.refl _ _, hG⟩
            simp [slotOf] at h36
            simp [execOp, go_sem, h36, d0]
          · intro a W hG hR hO hp
            have h5 := hO.slot 5 (by kernel_rfl)
            refine wp_yields (v := .pointer (some ⟨cb, 5, none⟩)) ?_ ⟨_, rfl, rfl, Below.refl _ _, hG⟩
            simp [slotOf] at h5
            simp [execOp, go_sem, h5]
          · intro a W hG hR hO hp
            have h38 : slotOf a 38 = .pointer (some ⟨cb, 5, none⟩) := hp.1
            have d0 := keep_cell c5 hG
            refine wp_yields (v := vi c.to) ?_ ⟨_, rfl, rfl, Below.refl _ _, hG⟩
            simp [slotOf] at h38
            simp [execOp, go_sem, h38, d0]
          · intro a W hG hR hO hp
            have h5 := hO.slot 5 (by kernel_rfl)
            refine wp_yields (v := .pointer (some ⟨cb, 6, none⟩)) ?_ ⟨_, rfl, rfl, Below.refl _ _, hG⟩
            simp [slotOf] at h5
            simp [execOp, go_sem, h5]
          · intro a W hG hR hO hp
            have h40 : slotOf a 40 = .pointer (some ⟨cb, 6, none⟩) := hp.1
            have d0 := keep_cell c6 hG
            refine wp_yields (v := vi c.pump) ?_ ⟨_, rfl, rfl, Below.refl _ _, hG⟩
            simp [slotOf] at h40
            simp [execOp, go_sem, h40, d0]
          · intro a W hG hR hO hp
            have h31 : slotOf a 31 = .agg #[vi c.lo, vi c.hi] := hp.1
            have h33 : slotOf a 33 = vi c.cap := hp.2.1
            have h35 : slotOf a 35 = vi c.keep := hp.2.2.1
            have h37 : slotOf a 37 = vi c.pass := hp.2.2.2.1
            have h39 : slotOf a 39 = vi c.to := hp.2.2.2.2.1
            have h41 : slotOf a 41 = vi c.pump := hp.2.2.2.2.2.1
            refine wp_yields (v := cellV c) ?_ ⟨_, rfl, rfl, Below.refl _ _, hG⟩
            simp [slotOf] at h31 h33 h35 h37 h39 h41
            simp [execOp, go_sem, h31, h33, h35, h37, h39, h41]
          · intro a W hG hR hO hp
            have h42 : slotOf a 42 = cellV c := hp.1
            refine wp_makes (v := .slice (some ⟨W.heap.size, 0, none⟩) 1 1) (W' := W.alloc (.cells (cellC c) 99)) ?_ ⟨_, rfl, ⟨_, rfl, hG.size, Whole.made _ _ _⟩, (Below.refl _ _).alloc (Nat.le_refl _) _, hG.alloc hG.size _⟩
            simp [slotOf] at h42
            simp [execOp, go_sem, h42]
        · intro W hG hR
          rintro _ rfl _ rfl _ rfl _ rfl _ rfl _ rfl _ rfl _ rfl _ rfl _ rfl _ rfl _ rfl _ rfl _ rfl _ rfl _ rfl _ ⟨nb1, rfl, hnb1, hW1⟩
          change wpList _ _ _ _ _ _
          simp only [Act.put, List.setIfInBounds_toArray, List.set_cons_zero, List.set_cons_succ, List.drop_succ_cons, List.drop_zero]
          have hm2 := (HM.out).newer hG
          have HO2 := Lib.hid (own_below HO.out hG)
          have HNW := Lib.hid (World.news_of_block hW1)
          have hbs := hm2.below.size
          have HM2 := Lib.hid hm2
          obtain ⟨hi0, hz0, hz1, hz2⟩ := HI.out
          clear hG hR hnb1 hW1 hm2 e0 c0 c1 c2 c3 c4 c5 c6 HM HO
          go_wp2_with (at_builtin; go_loud ((refine wpList_append_lies _ rfl (.tmp 28) (.tmp 43) 35 rfl w.heap.size 99 i99 (.agg #[.int .i64 0, .int .i64 0, .int .i64 0, .int .i64 0, .int .i64 0, .int .i64 0, .int .i64 0]) 7 56 Try.underlying35 hi0 hz0 hz1 hz2 rfl (by omega) _ k _ rfl HO2.out ⟨nb1, 0, none⟩ 1 1 (cellL c) rfl rfl HNW.out (by simp [Value.oneCell']) (by omega) (by unfold maxLen; omega) (by omega) hbs W.heap.size rfl ?_); intro gg cp2 w2 hown2 hgrow2 hat2 hlt2; rw [← take_flat cellL g.cells k c HCK.out] at hown2; have hm3 := (HM2.out).grown HO2.out hgrow2; have x0 := hm3.ot.at 0 rfl; have f0 := hm3.ot.free 0; have HO3 := Lib.hid hown2; have HM3 := Lib.hid hm3; clear hm3 hown2 hgrow2 hat2 hi0 hz0 hz1 hz2))
          have hst := own_set HO3.out (g := ob) (i := 0) (own_ne HO3.out (HM3.out).ot (by decide)) (.slice (some ⟨gg, 0, none⟩) (k + 1) cp2)
          exact ⟨⟨k + 1, by omega, by push_cast; rfl, _, (HM3.out).set (.slice (some ⟨gg, 0, none⟩) (k + 1) cp2), hst⟩, by (simp only [intOf]; omega)⟩
      · have hkn : k = g.cells.length := by omega
        subst hkn
        rw [List.take_of_length_le (Nat.le_refl _)] at hown
        obtain ⟨A2, c2, rfl⟩ := own_form hown
        have x0 := hm.ot.at 0 rfl
        have x1 := hm.ot.at 1 rfl
        have x2 := hm.ot.at 2 rfl
        have x3 := hm.ot.at 3 rfl
        have x4 := hm.ot.at 4 rfl
        have x5 := hm.ot.at 5 rfl
        have r0 := hm.rb.at 0 rfl
        have r1 := hm.rb.at 1 rfl
        have r2 := hm.rb.at 2 rfl
        have r3 := hm.rb.at 3 rfl
        have r4 := hm.rb.at 4 rfl
        have r5 := hm.rb.at 5 rfl
        have f0 := hm.rb.free 0
        have f1 := hm.rb.free 1
        have f2 := hm.rb.free 2
        have f3 := hm.rb.free 3
        have f4 := hm.rb.free 4
        have f5 := hm.rb.free 5
        have HM := Lib.hid hm
        have HO := Lib.hid hown
        clear hm hown
        go_wp2_with fail
        have hm := HM.out
        have c := (((((hm.rb.set 0 (.slice A2 g.cells.length c2)).set 1 (vi g.slo)).set 2 (vi g.shi)).set 3 (vi g.klo)).set 4 (vi g.khi)).set 5 (vi g.melt)
        have k0 := c.at 0 rfl
        have k1 := c.at 1 rfl
        have k2 := c.at 2 rfl
        have k3 := c.at 3 rfl
        have k4 := c.at 4 rfl
        have k5 := c.at 5 rfl
        have ne := own_ne HO.out hm.rb (by decide)
        have s : ∀ {X : World} {u : Value} {i : Nat}, Below w.heap.size w X → Below w.heap.size w (X.setCell ⟨w.heap.size + 1, i, none⟩ u) := fun h => h.setCell (p := ⟨w.heap.size + 1, _, none⟩) (by dsimp only; omega) _
        have q : ∀ {X : World} {u : Value} {i : Nat}, X.ownsRow w.heap.size 99 7 (.slice A2 g.cells.length c2) g.cells.length (g.cells.flatMap cellL) → (X.setCell ⟨w.heap.size + 1, i, none⟩ u).ownsRow w.heap.size 99 7 (.slice A2 g.cells.length c2) g.cells.length (g.cells.flatMap cellL) := fun h => own_set h ne _
        exact bodyPost_ret (v := gndV A2 c2 g) (by simp [results, Try.results19, go_sem, k0, k1, k2, k3, k4, k5]) rfl ⟨A2, c2, rfl, row_of_own (by omega) (fun _ => rfl) (q (q (q (q (q (q HO.out)))))), s (s (s (s (s (s hm.below)))))⟩
end Go.Proofs.Yteonkhohloabfaa
