/- The reference of the water layer: the truth of all lesser, or of all greater ends. -/
import Derived.Test.YteonkhohloabfaaX
namespace Go.Proofs.Yteonkhohloabfaa
open Go.RowKit

/-- Ends under way: its boxes, and the truth that it makes. -/
structure EndMid (w : World) (gcs : Array Value) (a b : Int) (lv rn : Value) (W : World) : Prop where
  below : Below w.heap.size w W
  gb : Whole W w.heap.size 26 gcs
  rb : Whole W (w.heap.size + 1) 47 #[vi 0, vi 0, .slice none 0 0, .slice none 0 0]
  bt : Whole W (w.heap.size + 1 + 1) 47 #[vi a, vi b, lv, rn]
section
variable {w : World} {gcs : Array Value} {a b : Int} {lv rn : Value} {W W' : World}
theorem EndMid.newer (h : EndMid w gcs a b lv rn W) (hb : newer W W') : EndMid w gcs a b lv rn W' :=
  ⟨below_next h.below hb, h.gb.below hb h.gb.lt, h.rb.below hb h.rb.lt, h.bt.below hb h.bt.lt⟩
theorem EndMid.grown (h : EndMid w gcs a b lv rn W) {v : Value} {n : Nat} {xs : List Value} (ho : W.ownsRow w.heap.size 3 1 v n xs) (hg : W.grownBy W' v.ownBlock) (hne : v.ownBlock ≠ some w.heap.size) : EndMid w gcs a b lv rn W' :=
  ⟨h.below.grown hg h.below.size (own_ge ho), h.gb.grown hg hne.symm, h.rb.grown hg (own_ne ho h.rb (by decide)).symm, h.bt.grown hg (own_ne ho h.bt (by decide)).symm⟩
theorem EndMid.setL (h : EndMid w gcs a b lv rn W) (u : Value) : EndMid w gcs a b u rn (W.setCell ⟨w.heap.size + 1 + 1, 2, none⟩ u) :=
  ⟨h.below.setCell (p := ⟨w.heap.size + 1 + 1, 2, none⟩) (by dsimp only; omega) _, h.gb.far (by dsimp only; omega) _, h.rb.far (by dsimp only; omega) _, h.bt.set 2 u⟩
theorem EndMid.setR (h : EndMid w gcs a b lv rn W) (u : Value) : EndMid w gcs a b lv u (W.setCell ⟨w.heap.size + 1 + 1, 3, none⟩ u) :=
  ⟨h.below.setCell (p := ⟨w.heap.size + 1 + 1, 3, none⟩) (by dsimp only; omega) _, h.gb.far (by dsimp only; omega) _, h.rb.far (by dsimp only; omega) _, h.bt.set 3 u⟩
theorem EndMid.ne (h : EndMid w gcs a b lv rn W) {v : Value} {n : Nat} {xs : List Value} (ho : W.ownsRow w.heap.size 3 1 v n xs) : v.ownBlock ≠ some w.heap.size := own_ne ho h.gb (by decide)
end
theorem apart_row {v v' : Value} (h : ∀ q, v.ownBlock = some q → v'.ownBlock ≠ some q) : v.ownBlock = none ∨ v.ownBlock ≠ v'.ownBlock := by
  rcases Option.eq_none_or_eq_some v.ownBlock with e | ⟨q, e⟩
  · exact .inl e
  · exact .inr (fun e2 => h q e (e2.symm.trans e))
theorem own_ge_slice {w : World} {base : Nat} {e : TypeId} {size n c : Nat} {a : Addr} {xs : List Value} (h : w.ownsRow base e size (.slice (some a) n c) n xs) : base ≤ a.block := by
  rcases h.2 with ⟨h0, _⟩ | ⟨g, cap, cur, h0, hb, _⟩
  · simp at h0
  · injection h0 with h1
    injection h1 with h1
    rw [h1]
    exact hb
theorem ints_snoc {α : Type} (f : α → Int) (l : List α) (k : Nat) (x : α) (h : l[k]? = some x) : ((l.take k).map f).flatMap intL ++ [vi (f x)] = ((l.take (k + 1)).map f).flatMap intL := by
  obtain ⟨hk, rfl⟩ := List.getElem?_eq_some_iff.1 h
  rw [List.take_succ_eq_append_getElem hk, List.map_append, List.flatMap_append]
  rfl

set_option maxRecDepth 100000 in
set_option maxHeartbeats 2000000 in
theorem refEnds_lo (g : Gnd) (A : Option Addr) (ap : Nat) (days : List Day) (D : Option Addr) (dp : Nat) (w : World) (hn : g.cells.length ≤ 1000) (hm : days.length ≤ 1000) (hc : Row cellL 7 w w.heap.size A g.cells) (hd : Row dayL 3 w w.heap.size D days) :
    Calls Try.prog 23 #[gndV A ap g, .slice D days.length dp, .bool false] w (ended w false g days) := by
  obtain ⟨i0, hi0, hz0, hz1, hz2⟩ := info_parts Try.info3
  have HI := Lib.hid (And.intro hi0 (And.intro hz0 (And.intro hz1 hz2)))
  clear hi0 hz0 hz1 hz2
  have HC := Lib.hid hc
  have HD := Lib.hid hd
  clear hc hd
  go_enter Try.func23, Try.ntmps23
  go_wp2_with fail
  have h0 : EndMid w (gndC A ap g) g.slo g.klo (.slice none 0 0) (.slice none 0 0) (((w.alloc (.cells (gndC A ap g) 26)).alloc (.cells #[vi 0, vi 0, .slice none 0 0, .slice none 0 0] 47)).alloc (.cells #[vi g.slo, vi g.klo, .slice none 0 0, .slice none 0 0] 47)) := by
    refine ⟨(((Below.refl _ _).alloc (Nat.le_refl _) _).alloc (by simp) _).alloc (by simp; omega) _, ?_, ?_, ?_⟩
    · (simp only [Whole, heap_if, World.size_alloc]; (repeat rw [if_neg (by omega)]); rfl)
    · (simp only [Whole, heap_if, World.size_alloc]; (repeat rw [if_neg (by omega)]); rfl)
    · (simp only [Whole, heap_if, World.size_alloc]; (repeat rw [if_neg (by omega)]); rfl)
  have H0 := Lib.hid h0
  clear h0
  go_loopw [8] (fun s8 W => ∃ k : Nat, k ≤ g.cells.length ∧ s8 = .int .i64 k ∧ ∃ lv, EndMid w (gndC A ap g) g.slo g.klo lv (.slice none 0 0) W ∧ W.ownsRow w.heap.size 3 1 lv k (((g.cells.take k).map fun c => c.lo).flatMap intL)) (fun s8 _ => g.cells.length - (intOf s8).toNat)
  case atStart => exact ⟨0, Nat.zero_le _, rfl, _, H0.out, by simp, .inl ⟨rfl, rfl⟩⟩
  case round =>
    obtain ⟨k, hk, rfl, lv, hmid, hown⟩ := hrel
    clear H0
    have e0 := hmid.gb.at 0 (v := .slice A g.cells.length ap) rfl
    by_cases hlt : k < g.cells.length
    · obtain ⟨c, hck⟩ := get_of_lt hlt
      obtain ⟨b, off, rfl, hb, h0, h1, h2, h3, h4, h5, h6⟩ := row7 (HC.out.below hmid.below) hck
      have e2 := hmid.bt.at 2 rfl
      have hkn : (k : Int) < g.cells.length := by omega
      have hl := hmid.bt.lt
      have f2 := hmid.bt.free 2
      have HCK := Lib.hid hck
      have HM := Lib.hid (hmid.newer ((Below.refl _ _).alloc (Nat.le_refl _) (.cells #[vi c.lo] 3)))
      have HO := Lib.hid (own_below hown ((Below.refl _ _).alloc (Nat.le_refl _) (.cells #[vi c.lo] 3)))
      have HNW := Lib.hid (World.news_of_block (Whole.made wr 3 #[vi c.lo]))
      have hbs := hmid.below.size
      clear hmid hown hck
      obtain ⟨hi0, hz0, hz1, hz2⟩ := HI.out
      go_wp2_with (at_builtin; go_loud ((refine wpList_append_lies _ rfl (.tmp 50) (.tmp 52) 43 rfl w.heap.size 3 i0 (.int .i64 0) 1 8 Try.underlying43 hi0 hz0 hz1 hz2 rfl (by omega) _ k _ rfl HO.out ⟨wr.heap.size, 0, none⟩ 1 1 [vi c.lo] rfl rfl HNW.out (by simp [Value.oneCell']) (by omega) (by unfold maxLen; omega) (by omega) (by simp; omega) (wr.heap.size + 1) (by simp) ?_); intro gg cp2 w2 hown2 hgrow2 hat2 hlt2; rw [ints_snoc (fun c : Cell => c.lo) g.cells k c HCK.out] at hown2; have hm2 := (HM.out).grown HO.out hgrow2 ((HM.out).ne HO.out); have f2' := hm2.bt.free 2; have x2' := hm2.bt.at 2 rfl; have HO2 := Lib.hid hown2; have HM2 := Lib.hid hm2; clear hm2 hown2 hgrow2 hat2 hi0 hz0 hz1 hz2 HM HO HNW e2 f2 e0 h0 h1 h2 h3 h4 h5 h6))
      have hst := own_set HO2.out (g := w.heap.size + 1 + 1) (i := 2) (own_ne HO2.out (HM2.out).bt (by decide)) (.slice (some ⟨gg, 0, none⟩) (k + 1) cp2)
      have hst2 := (HM2.out).setL (.slice (some ⟨gg, 0, none⟩) (k + 1) cp2)
      exact ⟨⟨k + 1, by omega, by push_cast; rfl, _, hst2, hst⟩, by (simp only [intOf]; omega)⟩
    · have hkn : k = g.cells.length := by omega
      subst hkn
      rw [List.take_of_length_le (Nat.le_refl _)] at hown
      have HM := Lib.hid hmid
      have HO := Lib.hid hown
      clear hmid hown
      go_wp2_with fail
      clear e0
      go_loopw [10] (fun s10 W => ∃ k : Nat, k ≤ days.length ∧ s10 = .int .i64 k ∧ ∃ rn, EndMid w (gndC A ap g) g.slo g.klo lv rn W ∧ W.ownsRow w.heap.size 3 1 lv g.cells.length ((g.cells.map fun c => c.lo).flatMap intL) ∧ W.ownsRow w.heap.size 3 1 rn k (((days.take k).map fun d => d.lo).flatMap intL) ∧ ∀ q, lv.ownBlock = some q → rn.ownBlock ≠ some q) (fun s10 _ => days.length - (intOf s10).toNat)
      case atStart => exact ⟨0, Nat.zero_le _, rfl, _, (HM.out), HO.out, ⟨by simp, .inl ⟨rfl, rfl⟩⟩, fun q _ e => by simp [Value.ownBlock] at e⟩
      case round =>
        obtain ⟨k, hk, rfl, rn, hmid, howl, hown, hap⟩ := hrel
        clear HM HO
        by_cases hlt : k < days.length
        · obtain ⟨d, hdk⟩ := get_of_lt hlt
          obtain ⟨b, off, rfl, hb, h0, h1, h2⟩ := row3 (HD.out.below hmid.below) hdk
          have e3 := hmid.bt.at 3 rfl
          have hkn : (k : Int) < days.length := by omega
          have hl := hmid.bt.lt
          have f3 := hmid.bt.free 3
          have HDK := Lib.hid hdk
          have HM := Lib.hid (hmid.newer ((Below.refl _ _).alloc (Nat.le_refl _) (.cells #[vi d.lo] 3)))
          have HL := Lib.hid (own_below howl ((Below.refl _ _).alloc (Nat.le_refl _) (.cells #[vi d.lo] 3)))
          have HO := Lib.hid (own_below hown ((Below.refl _ _).alloc (Nat.le_refl _) (.cells #[vi d.lo] 3)))
          have HLT := Lib.hid (own_lt howl)
          have HAP := Lib.hid hap
          have HNW := Lib.hid (World.news_of_block (Whole.made wr 3 #[vi d.lo]))
          have hbs := hmid.below.size
          clear hmid hown howl hap hdk
          obtain ⟨hi0, hz0, hz1, hz2⟩ := HI.out
          go_wp2_with (at_builtin; go_loud ((refine wpList_append_lies _ rfl (.tmp 75) (.tmp 77) 43 rfl w.heap.size 3 i0 (.int .i64 0) 1 8 Try.underlying43 hi0 hz0 hz1 hz2 rfl (by omega) _ k _ rfl HO.out ⟨wr.heap.size, 0, none⟩ 1 1 [vi d.lo] rfl rfl HNW.out (by simp [Value.oneCell']) (by omega) (by unfold maxLen; omega) (by omega) (by simp; omega) (wr.heap.size + 1) (by simp) ?_); intro gg cp2 w2 hown2 hgrow2 hat2 hlt2; rw [ints_snoc (fun d : Day => d.lo) days k d HDK.out] at hown2; have hm2 := (HM.out).grown HO.out hgrow2 ((HM.out).ne HO.out); have f3' := hm2.bt.free 3; have x3' := hm2.bt.at 3 rfl; have HO2 := Lib.hid hown2; have HM2 := Lib.hid hm2; have HL2 := Lib.hid ((HL.out).kept hgrow2 (apart_row (HAP.out))); have HAT := Lib.hid hat2; clear hm2 hown2 hgrow2 hat2 hi0 hz0 hz1 hz2 HM HO HL HNW e3 f3 h0 h1 h2))
          have hst := own_set HO2.out (g := w.heap.size + 1 + 1) (i := 3) (own_ne HO2.out (HM2.out).bt (by decide)) (.slice (some ⟨gg, 0, none⟩) (k + 1) cp2)
          have hst1 := own_set HL2.out (g := w.heap.size + 1 + 1) (i := 3) (own_ne HL2.out (HM2.out).bt (by decide)) (.slice (some ⟨gg, 0, none⟩) (k + 1) cp2)
          have hst2 := (HM2.out).setR (.slice (some ⟨gg, 0, none⟩) (k + 1) cp2)
          refine ⟨⟨k + 1, by omega, by push_cast; rfl, _, hst2, hst1, hst, fun q e e2 => ?_⟩, by (simp only [intOf]; omega)⟩
          have e3 : gg = q := by simpa [Value.ownBlock] using e2
          rcases HAT.out with h | h
          · exact HAP.out q e ((show rn.ownBlock = some gg from h).trans (by rw [e3]))
          · have := HLT.out q e
            omega
        · have hkn : k = days.length := by omega
          subst hkn
          rw [List.take_of_length_le (Nat.le_refl _)] at hown
          obtain ⟨L, lp, rfl⟩ := own_form howl
          obtain ⟨R, rp, rfl⟩ := own_form hown
          have x0 := hmid.bt.at 0 rfl
          have x1 := hmid.bt.at 1 rfl
          have x2 := hmid.bt.at 2 rfl
          have x3 := hmid.bt.at 3 rfl
          have r0 := hmid.rb.at 0 rfl
          have r1 := hmid.rb.at 1 rfl
          have r2 := hmid.rb.at 2 rfl
          have r3 := hmid.rb.at 3 rfl
          have f0 := hmid.rb.free 0
          have f1 := hmid.rb.free 1
          have f2 := hmid.rb.free 2
          have f3 := hmid.rb.free 3
          have HM := Lib.hid hmid
          have HL := Lib.hid howl
          have HO := Lib.hid hown
          clear hmid hown howl hap
          go_wp2_with fail
          have hm := HM.out
          have c := (((hm.rb.set 0 (vi g.slo)).set 1 (vi g.klo)).set 2 (.slice L g.cells.length lp)).set 3 (.slice R days.length rp)
          have c0 := c.at 0 rfl
          have c1 := c.at 1 rfl
          have c2 := c.at 2 rfl
          have c3 := c.at 3 rfl
          have hs : ∀ v n xs, wr.ownsRow w.heap.size 3 1 v n xs → ((((wr.setCell ⟨w.heap.size + 1, 0, none⟩ (vi g.slo)).setCell ⟨w.heap.size + 1, 1, none⟩ (vi g.klo)).setCell ⟨w.heap.size + 1, 2, none⟩ (.slice L g.cells.length lp)).setCell ⟨w.heap.size + 1, 3, none⟩ (.slice R days.length rp)).ownsRow w.heap.size 3 1 v n xs := fun v n xs h =>
            have ne := own_ne h hm.rb (by decide)
            own_set (own_set (own_set (own_set h ne _) ne _) ne _) ne _
          have hbl : Below w.heap.size w ((((wr.setCell ⟨w.heap.size + 1, 0, none⟩ (vi g.slo)).setCell ⟨w.heap.size + 1, 1, none⟩ (vi g.klo)).setCell ⟨w.heap.size + 1, 2, none⟩ (.slice L g.cells.length lp)).setCell ⟨w.heap.size + 1, 3, none⟩ (.slice R days.length rp)) :=
            (((hm.below.setCell (p := ⟨w.heap.size + 1, 0, none⟩) (by dsimp only; omega) _).setCell (p := ⟨w.heap.size + 1, 1, none⟩) (by dsimp only; omega) _).setCell (p := ⟨w.heap.size + 1, 2, none⟩) (by dsimp only; omega) _).setCell (p := ⟨w.heap.size + 1, 3, none⟩) (by dsimp only; omega) _
          refine bodyPost_ret (v := truthV g.slo g.klo L g.cells.length lp R days.length rp) (by simp [results, Try.results23, go_sem, c0, c1, c2, c3]) rfl ⟨L, lp, R, rp, rfl, row_of_own (by omega) (fun _ => rfl) (hs _ _ _ HL.out), row_of_own (by omega) (fun _ => rfl) (hs _ _ _ HO.out), hbl, ?_, ?_⟩
          · rintro a rfl
            exact own_ge_slice HL.out
          · rintro a rfl
            exact own_ge_slice HO.out

set_option maxRecDepth 100000 in
set_option maxHeartbeats 2000000 in
theorem refEnds_hi (g : Gnd) (A : Option Addr) (ap : Nat) (days : List Day) (D : Option Addr) (dp : Nat) (w : World) (hn : g.cells.length ≤ 1000) (hm : days.length ≤ 1000) (hc : Row cellL 7 w w.heap.size A g.cells) (hd : Row dayL 3 w w.heap.size D days) :
    Calls Try.prog 23 #[gndV A ap g, .slice D days.length dp, .bool true] w (ended w true g days) := by
  obtain ⟨i0, hi0, hz0, hz1, hz2⟩ := info_parts Try.info3
  have HI := Lib.hid (And.intro hi0 (And.intro hz0 (And.intro hz1 hz2)))
  clear hi0 hz0 hz1 hz2
  have HC := Lib.hid hc
  have HD := Lib.hid hd
  clear hc hd
  go_enter Try.func23, Try.ntmps23
  go_wp2_with fail
  have h0 : EndMid w (gndC A ap g) g.shi g.khi (.slice none 0 0) (.slice none 0 0) (((w.alloc (.cells (gndC A ap g) 26)).alloc (.cells #[vi 0, vi 0, .slice none 0 0, .slice none 0 0] 47)).alloc (.cells #[vi g.shi, vi g.khi, .slice none 0 0, .slice none 0 0] 47)) := by
    refine ⟨(((Below.refl _ _).alloc (Nat.le_refl _) _).alloc (by simp) _).alloc (by simp; omega) _, ?_, ?_, ?_⟩
    · (simp only [Whole, heap_if, World.size_alloc]; (repeat rw [if_neg (by omega)]); rfl)
    · (simp only [Whole, heap_if, World.size_alloc]; (repeat rw [if_neg (by omega)]); rfl)
    · (simp only [Whole, heap_if, World.size_alloc]; (repeat rw [if_neg (by omega)]); rfl)
  have H0 := Lib.hid h0
  clear h0
  go_loopw [8] (fun s8 W => ∃ k : Nat, k ≤ g.cells.length ∧ s8 = .int .i64 k ∧ ∃ lv, EndMid w (gndC A ap g) g.shi g.khi lv (.slice none 0 0) W ∧ W.ownsRow w.heap.size 3 1 lv k (((g.cells.take k).map fun c => c.hi).flatMap intL)) (fun s8 _ => g.cells.length - (intOf s8).toNat)
  case atStart => exact ⟨0, Nat.zero_le _, rfl, _, H0.out, by simp, .inl ⟨rfl, rfl⟩⟩
  case round =>
    obtain ⟨k, hk, rfl, lv, hmid, hown⟩ := hrel
    clear H0
    have e0 := hmid.gb.at 0 (v := .slice A g.cells.length ap) rfl
    by_cases hlt : k < g.cells.length
    · obtain ⟨c, hck⟩ := get_of_lt hlt
      obtain ⟨b, off, rfl, hb, h0, h1, h2, h3, h4, h5, h6⟩ := row7 (HC.out.below hmid.below) hck
      have e2 := hmid.bt.at 2 rfl
      have hkn : (k : Int) < g.cells.length := by omega
      have hl := hmid.bt.lt
      have f2 := hmid.bt.free 2
      have HCK := Lib.hid hck
      have HM := Lib.hid (hmid.newer ((Below.refl _ _).alloc (Nat.le_refl _) (.cells #[vi c.hi] 3)))
      have HO := Lib.hid (own_below hown ((Below.refl _ _).alloc (Nat.le_refl _) (.cells #[vi c.hi] 3)))
      have HNW := Lib.hid (World.news_of_block (Whole.made wr 3 #[vi c.hi]))
      have hbs := hmid.below.size
      clear hmid hown hck
      obtain ⟨hi0, hz0, hz1, hz2⟩ := HI.out
      go_wp2_with (at_builtin; go_loud ((refine wpList_append_lies _ rfl (.tmp 50) (.tmp 52) 43 rfl w.heap.size 3 i0 (.int .i64 0) 1 8 Try.underlying43 hi0 hz0 hz1 hz2 rfl (by omega) _ k _ rfl HO.out ⟨wr.heap.size, 0, none⟩ 1 1 [vi c.hi] rfl rfl HNW.out (by simp [Value.oneCell']) (by omega) (by unfold maxLen; omega) (by omega) (by simp; omega) (wr.heap.size + 1) (by simp) ?_); intro gg cp2 w2 hown2 hgrow2 hat2 hlt2; rw [ints_snoc (fun c : Cell => c.hi) g.cells k c HCK.out] at hown2; have hm2 := (HM.out).grown HO.out hgrow2 ((HM.out).ne HO.out); have f2' := hm2.bt.free 2; have x2' := hm2.bt.at 2 rfl; have HO2 := Lib.hid hown2; have HM2 := Lib.hid hm2; clear hm2 hown2 hgrow2 hat2 hi0 hz0 hz1 hz2 HM HO HNW e2 f2 e0 h0 h1 h2 h3 h4 h5 h6))
      have hst := own_set HO2.out (g := w.heap.size + 1 + 1) (i := 2) (own_ne HO2.out (HM2.out).bt (by decide)) (.slice (some ⟨gg, 0, none⟩) (k + 1) cp2)
      have hst2 := (HM2.out).setL (.slice (some ⟨gg, 0, none⟩) (k + 1) cp2)
      exact ⟨⟨k + 1, by omega, by push_cast; rfl, _, hst2, hst⟩, by (simp only [intOf]; omega)⟩
    · have hkn : k = g.cells.length := by omega
      subst hkn
      rw [List.take_of_length_le (Nat.le_refl _)] at hown
      have HM := Lib.hid hmid
      have HO := Lib.hid hown
      clear hmid hown
      go_wp2_with fail
      clear e0
      go_loopw [10] (fun s10 W => ∃ k : Nat, k ≤ days.length ∧ s10 = .int .i64 k ∧ ∃ rn, EndMid w (gndC A ap g) g.shi g.khi lv rn W ∧ W.ownsRow w.heap.size 3 1 lv g.cells.length ((g.cells.map fun c => c.hi).flatMap intL) ∧ W.ownsRow w.heap.size 3 1 rn k (((days.take k).map fun d => d.hi).flatMap intL) ∧ ∀ q, lv.ownBlock = some q → rn.ownBlock ≠ some q) (fun s10 _ => days.length - (intOf s10).toNat)
      case atStart => exact ⟨0, Nat.zero_le _, rfl, _, (HM.out), HO.out, ⟨by simp, .inl ⟨rfl, rfl⟩⟩, fun q _ e => by simp [Value.ownBlock] at e⟩
      case round =>
        obtain ⟨k, hk, rfl, rn, hmid, howl, hown, hap⟩ := hrel
        clear HM HO
        by_cases hlt : k < days.length
        · obtain ⟨d, hdk⟩ := get_of_lt hlt
          obtain ⟨b, off, rfl, hb, h0, h1, h2⟩ := row3 (HD.out.below hmid.below) hdk
          have e3 := hmid.bt.at 3 rfl
          have hkn : (k : Int) < days.length := by omega
          have hl := hmid.bt.lt
          have f3 := hmid.bt.free 3
          have HDK := Lib.hid hdk
          have HM := Lib.hid (hmid.newer ((Below.refl _ _).alloc (Nat.le_refl _) (.cells #[vi d.hi] 3)))
          have HL := Lib.hid (own_below howl ((Below.refl _ _).alloc (Nat.le_refl _) (.cells #[vi d.hi] 3)))
          have HO := Lib.hid (own_below hown ((Below.refl _ _).alloc (Nat.le_refl _) (.cells #[vi d.hi] 3)))
          have HLT := Lib.hid (own_lt howl)
          have HAP := Lib.hid hap
          have HNW := Lib.hid (World.news_of_block (Whole.made wr 3 #[vi d.hi]))
          have hbs := hmid.below.size
          clear hmid hown howl hap hdk
          obtain ⟨hi0, hz0, hz1, hz2⟩ := HI.out
          go_wp2_with (at_builtin; go_loud ((refine wpList_append_lies _ rfl (.tmp 75) (.tmp 77) 43 rfl w.heap.size 3 i0 (.int .i64 0) 1 8 Try.underlying43 hi0 hz0 hz1 hz2 rfl (by omega) _ k _ rfl HO.out ⟨wr.heap.size, 0, none⟩ 1 1 [vi d.hi] rfl rfl HNW.out (by simp [Value.oneCell']) (by omega) (by unfold maxLen; omega) (by omega) (by simp; omega) (wr.heap.size + 1) (by simp) ?_); intro gg cp2 w2 hown2 hgrow2 hat2 hlt2; rw [ints_snoc (fun d : Day => d.hi) days k d HDK.out] at hown2; have hm2 := (HM.out).grown HO.out hgrow2 ((HM.out).ne HO.out); have f3' := hm2.bt.free 3; have x3' := hm2.bt.at 3 rfl; have HO2 := Lib.hid hown2; have HM2 := Lib.hid hm2; have HL2 := Lib.hid ((HL.out).kept hgrow2 (apart_row (HAP.out))); have HAT := Lib.hid hat2; clear hm2 hown2 hgrow2 hat2 hi0 hz0 hz1 hz2 HM HO HL HNW e3 f3 h0 h1 h2))
          have hst := own_set HO2.out (g := w.heap.size + 1 + 1) (i := 3) (own_ne HO2.out (HM2.out).bt (by decide)) (.slice (some ⟨gg, 0, none⟩) (k + 1) cp2)
          have hst1 := own_set HL2.out (g := w.heap.size + 1 + 1) (i := 3) (own_ne HL2.out (HM2.out).bt (by decide)) (.slice (some ⟨gg, 0, none⟩) (k + 1) cp2)
          have hst2 := (HM2.out).setR (.slice (some ⟨gg, 0, none⟩) (k + 1) cp2)
          refine ⟨⟨k + 1, by omega, by push_cast; rfl, _, hst2, hst1, hst, fun q e e2 => ?_⟩, by (simp only [intOf]; omega)⟩
          have e3 : gg = q := by simpa [Value.ownBlock] using e2
          rcases HAT.out with h | h
          · exact HAP.out q e ((show rn.ownBlock = some gg from h).trans (by rw [e3]))
          · have := HLT.out q e
            omega
        · have hkn : k = days.length := by omega
          subst hkn
          rw [List.take_of_length_le (Nat.le_refl _)] at hown
          obtain ⟨L, lp, rfl⟩ := own_form howl
          obtain ⟨R, rp, rfl⟩ := own_form hown
          have x0 := hmid.bt.at 0 rfl
          have x1 := hmid.bt.at 1 rfl
          have x2 := hmid.bt.at 2 rfl
          have x3 := hmid.bt.at 3 rfl
          have r0 := hmid.rb.at 0 rfl
          have r1 := hmid.rb.at 1 rfl
          have r2 := hmid.rb.at 2 rfl
          have r3 := hmid.rb.at 3 rfl
          have f0 := hmid.rb.free 0
          have f1 := hmid.rb.free 1
          have f2 := hmid.rb.free 2
          have f3 := hmid.rb.free 3
          have HM := Lib.hid hmid
          have HL := Lib.hid howl
          have HO := Lib.hid hown
          clear hmid hown howl hap
          go_wp2_with fail
          have hm := HM.out
          have c := (((hm.rb.set 0 (vi g.shi)).set 1 (vi g.khi)).set 2 (.slice L g.cells.length lp)).set 3 (.slice R days.length rp)
          have c0 := c.at 0 rfl
          have c1 := c.at 1 rfl
          have c2 := c.at 2 rfl
          have c3 := c.at 3 rfl
          have hs : ∀ v n xs, wr.ownsRow w.heap.size 3 1 v n xs → ((((wr.setCell ⟨w.heap.size + 1, 0, none⟩ (vi g.shi)).setCell ⟨w.heap.size + 1, 1, none⟩ (vi g.khi)).setCell ⟨w.heap.size + 1, 2, none⟩ (.slice L g.cells.length lp)).setCell ⟨w.heap.size + 1, 3, none⟩ (.slice R days.length rp)).ownsRow w.heap.size 3 1 v n xs := fun v n xs h =>
            have ne := own_ne h hm.rb (by decide)
            own_set (own_set (own_set (own_set h ne _) ne _) ne _) ne _
          have hbl : Below w.heap.size w ((((wr.setCell ⟨w.heap.size + 1, 0, none⟩ (vi g.shi)).setCell ⟨w.heap.size + 1, 1, none⟩ (vi g.khi)).setCell ⟨w.heap.size + 1, 2, none⟩ (.slice L g.cells.length lp)).setCell ⟨w.heap.size + 1, 3, none⟩ (.slice R days.length rp)) :=
            (((hm.below.setCell (p := ⟨w.heap.size + 1, 0, none⟩) (by dsimp only; omega) _).setCell (p := ⟨w.heap.size + 1, 1, none⟩) (by dsimp only; omega) _).setCell (p := ⟨w.heap.size + 1, 2, none⟩) (by dsimp only; omega) _).setCell (p := ⟨w.heap.size + 1, 3, none⟩) (by dsimp only; omega) _
          refine bodyPost_ret (v := truthV g.shi g.khi L g.cells.length lp R days.length rp) (by simp [results, Try.results23, go_sem, c0, c1, c2, c3]) rfl ⟨L, lp, R, rp, rfl, row_of_own (by omega) (fun _ => rfl) (hs _ _ _ HL.out), row_of_own (by omega) (fun _ => rfl) (hs _ _ _ HO.out), hbl, ?_, ?_⟩
          · rintro a rfl
            exact own_ge_slice HL.out
          · rintro a rfl
            exact own_ge_slice HO.out

end Go.Proofs.Yteonkhohloabfaa
