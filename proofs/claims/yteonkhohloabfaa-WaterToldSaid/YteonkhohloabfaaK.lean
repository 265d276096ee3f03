/- The truths of all lesser, and of all greater ends. -/
import Derived.Test.YteonkhohloabfaaJ
import Derived.Test.YteonkhohloabfaaL
namespace Go.Proofs.Yteonkhohloabfaa
open Go.RowKit

/-- A pointer to a block that has been made since. -/
def vNew (B : Nat) (t : TypeId) (cs : Array Value) (v : Value) (W : World) : Prop := ∃ nb, v = .pointer (some ⟨nb, 0, none⟩) ∧ B ≤ nb ∧ Whole W nb t cs
theorem vNew_st {B : Nat} {t : TypeId} {cs : Array Value} : ∀ v W W', vNew B t cs v W → newer W W' → vNew B t cs v W' := fun _ _ _ ⟨nb, h1, h2, h3⟩ hb => ⟨nb, h1, h2, h3.below hb h3.lt⟩
/-- A slice of one element in a block of its own. -/
def vOne (B : Nat) (t : TypeId) (cs : Array Value) (v : Value) (W : World) : Prop := ∃ nb, v = .slice (some ⟨nb, 0, none⟩) 1 1 ∧ B ≤ nb ∧ Whole W nb t cs
theorem vOne_st {B : Nat} {t : TypeId} {cs : Array Value} : ∀ v W W', vOne B t cs v W → newer W W' → vOne B t cs v W' := fun _ _ _ ⟨nb, h1, h2, h3⟩ hb => ⟨nb, h1, h2, h3.below hb h3.lt⟩
theorem take_flat {α : Type} (f : α → List Value) (l : List α) (k : Nat) (x : α) (h : l[k]? = some x) : (l.take (k + 1)).flatMap f = (l.take k).flatMap f ++ f x := by
  obtain ⟨hk, rfl⟩ := List.getElem?_eq_some_iff.1 h
  rw [List.take_succ_eq_append_getElem hk, List.flatMap_append]
  simp
theorem grown_row {a w w1 : World} {row : Option Nat} {v : Value} (h : a.grownBy w row) (hg : w.grownBy w1 v.ownBlock) (hv : ∀ k, v.ownBlock = some k → a.heap.size ≤ k) : a.grownBy w1 row :=
  ⟨hg.os.trans h.os, hg.tape.trans h.tape, hg.output.trans h.output, Nat.le_trans h.size hg.size, fun i hi hne => (hg.block i (Nat.lt_of_lt_of_le hi h.size) (fun e => by have := hv i e.symm; omega)).trans (h.block i hi hne)⟩
theorem own_more {w : World} {base base' : Nat} {e : TypeId} {size n : Nat} {v : Value} {xs : List Value} (h : w.ownsRow base' e size v n xs) (hb : base ≤ base') : w.ownsRow base e size v n xs := by
  obtain ⟨h1, h2⟩ := h
  refine ⟨h1, ?_⟩
  rcases h2 with h2 | ⟨g, cap, cur, a, b, c⟩
  · exact .inl h2
  · exact .inr ⟨g, cap, cur, a, by omega, c⟩
theorem grown_drew {a w : World} {row : Option Nat} (h : a.grownBy w row) : a.grownBy w.drew row := ⟨h.os, h.tape, h.output, h.size, h.block⟩

set_option maxRecDepth 100000 in
set_option maxHeartbeats 2000000 in
theorem truth_lo (g : Gnd) (A : Option Addr) (ap : Nat) (days : List Day) (D : Option Addr) (dp : Nat) (w : World) (hn : g.cells.length ≤ 1000) (hm : days.length ≤ 1000) (hc : Row cellL 7 w w.heap.size A g.cells) (hd : Row dayL 3 w w.heap.size D days) :
    Calls Try.prog 54 #[.agg #[.func (.func 84) #[] #[]], gndV A ap g, .slice D days.length dp] w (ended w false g days) := by
  obtain ⟨l, slo, shi, klo, khi, melt⟩ := g
  unfold gndV
  dsimp only at hn hc ⊢
  have HC := Lib.hid hc
  have HD := Lib.hid hd
  clear hc hd
  obtain ⟨n, hnl⟩ : ∃ n, n = l.length := ⟨_, rfl⟩
  obtain ⟨m, hml⟩ : ∃ m, m = days.length := ⟨_, rfl⟩
  rw [← hnl] at hn ⊢
  rw [← hml] at hm ⊢
  have HN := Lib.hid hnl
  have HM := Lib.hid hml
  clear hnl hml
  obtain ⟨i0, hi0, hz0, hz1, hz2⟩ := info_parts Try.info3
  have HI := Lib.hid (And.intro hi0 (And.intro hz0 (And.intro hz1 hz2)))
  clear hi0 hz0 hz1 hz2
  go_enter Try.func54, Try.ntmps54
  go_wp2
  go_upto_region 1 with fail
  refine gen_world (TruthPre w 84 #[.slice A n ap, vi slo, vi shi, vi klo, vi khi, vi melt]) (TruthPre.made _ _ _) ?_
  intro wv hp
  have e0 := hp.b0.at 0 (v := .func (.func 84) #[] #[]) rfl
  have e1 := hp.b1.at 1 (v := vi slo) rfl
  have e2 := hp.b1.at 2 (v := vi shi) rfl
  have e3 := hp.b1.at 3 (v := vi klo) rfl
  have e4 := hp.b1.at 4 (v := vi khi) rfl
  have hlt := hp.b2.lt
  have HP := Lib.hid hp
  clear hp
  go_cut [7] (fun p W => ∃ tb, p = .pointer (some ⟨tb, 0, none⟩) ∧ TruthMid w 84 slo klo #[.slice A n ap, vi slo, vi shi, vi klo, vi khi, vi melt] tb (.slice none 0 0) (.slice none 0 0) W)
  case first =>
    refine wp_words (by kernel_rfl) (region_told 12 (by kernel_rfl) (by kernel_rfl) (fun W => Below wv.heap.size wv W) newer (pickD [vIs (.pointer (some ⟨w.heap.size, 0, none⟩)), vIs (.func (.func 84) #[] #[]), vIs (.pointer (some ⟨w.heap.size + 1, 1, none⟩)), vIs (.agg #[vi slo, vi shi]), vIs (vi slo), vIs (.pointer (some ⟨w.heap.size, 0, none⟩)), vIs (.func (.func 84) #[] #[]), vIs (.pointer (some ⟨w.heap.size + 1, 3, none⟩)), vIs (.agg #[vi klo, vi khi]), vIs (vi klo), vIs (.agg #[vi slo, vi klo, .slice none 0 0, .slice none 0 0]), vNew wv.heap.size 63 #[.int .i64 0, .int .i64 0, .slice none 0 0, .slice none 0 0]]) (fun h k => newer_trans h k) (pickD_stable _ ⟨vIs_st, vIs_st, vIs_st, vIs_st, vIs_st, vIs_st, vIs_st, vIs_st, vIs_st, vIs_st, vIs_st, vNew_st, trivial⟩) (Below.refl _ wv).drew (Below.refl _ _) ?_ ?_)
    · refine ⟨?_, ?_, ?_, ?_, ?_, ?_, ?_, ?_, ?_, ?_, ?_, ?_, trivial⟩
      · intro a W hG hR hO hp
        have h3 := hO.slot 3 (by kernel_rfl)
        refine wp_yields (v := .pointer (some ⟨w.heap.size, 0, none⟩)) ?_ ⟨_, rfl, rfl, Below.refl _ _, hG⟩
        simp [slotOf] at h3
        simp [execOp, go_sem, h3]
      · intro a W hG hR hO hp
        have h12 : slotOf a 12 = .pointer (some ⟨w.heap.size, 0, none⟩) := hp.1
        have c0 := keep_cell e0 hG
        refine wp_yields (v := .func (.func 84) #[] #[]) ?_ ⟨_, rfl, rfl, Below.refl _ _, hG⟩
        simp [slotOf] at h12
        simp [execOp, go_sem, h12, c0]
      · intro a W hG hR hO hp
        have h4 := hO.slot 4 (by kernel_rfl)
        refine wp_yields (v := .pointer (some ⟨w.heap.size + 1, 1, none⟩)) ?_ ⟨_, rfl, rfl, Below.refl _ _, hG⟩
        simp [slotOf] at h4
        simp [execOp, go_sem, h4]
      · intro a W hG hR hO hp
        have h14 : slotOf a 14 = .pointer (some ⟨w.heap.size + 1, 1, none⟩) := hp.1
        have c0 := keep_cell e1 hG
        have c1 := keep_cell e2 hG
        refine wp_yields (v := .agg #[vi slo, vi shi]) ?_ ⟨_, rfl, rfl, Below.refl _ _, hG⟩
        simp [slotOf] at h14
        simp [execOp, go_sem, h14, c0, c1]
      · intro a W hG hR hO hp
        have h13 : slotOf a 13 = .func (.func 84) #[] #[] := hp.1
        have h15 : slotOf a 15 = .agg #[vi slo, vi shi] := hp.2.1
        refine wp_enters (f := 84) (args := #[.agg #[vi slo, vi shi]]) ?_ ((low_any _ _ _).mono ?_)
        · simp [slotOf] at h13 h15
          simp [execOp, go_sem, h13, h15]
        · rintro e w' ⟨rfl, hb⟩
          exact ⟨_, rfl, _, rfl, rfl, hb, below_next hG hb⟩
      · intro a W hG hR hO hp
        have h3 := hO.slot 3 (by kernel_rfl)
        refine wp_yields (v := .pointer (some ⟨w.heap.size, 0, none⟩)) ?_ ⟨_, rfl, rfl, Below.refl _ _, hG⟩
        simp [slotOf] at h3
        simp [execOp, go_sem, h3]
      · intro a W hG hR hO hp
        have h17 : slotOf a 17 = .pointer (some ⟨w.heap.size, 0, none⟩) := hp.1
        have c0 := keep_cell e0 hG
        refine wp_yields (v := .func (.func 84) #[] #[]) ?_ ⟨_, rfl, rfl, Below.refl _ _, hG⟩
        simp [slotOf] at h17
        simp [execOp, go_sem, h17, c0]
      · intro a W hG hR hO hp
        have h4 := hO.slot 4 (by kernel_rfl)
        refine wp_yields (v := .pointer (some ⟨w.heap.size + 1, 3, none⟩)) ?_ ⟨_, rfl, rfl, Below.refl _ _, hG⟩
        simp [slotOf] at h4
        simp [execOp, go_sem, h4]
      · intro a W hG hR hO hp
        have h19 : slotOf a 19 = .pointer (some ⟨w.heap.size + 1, 3, none⟩) := hp.1
        have c0 := keep_cell e3 hG
        have c1 := keep_cell e4 hG
        refine wp_yields (v := .agg #[vi klo, vi khi]) ?_ ⟨_, rfl, rfl, Below.refl _ _, hG⟩
        simp [slotOf] at h19
        simp [execOp, go_sem, h19, c0, c1]
      · intro a W hG hR hO hp
        have h18 : slotOf a 18 = .func (.func 84) #[] #[] := hp.1
        have h20 : slotOf a 20 = .agg #[vi klo, vi khi] := hp.2.1
        refine wp_enters (f := 84) (args := #[.agg #[vi klo, vi khi]]) ?_ ((low_any _ _ _).mono ?_)
        · simp [slotOf] at h18 h20
          simp [execOp, go_sem, h18, h20]
        · rintro e w' ⟨rfl, hb⟩
          exact ⟨_, rfl, _, rfl, rfl, hb, below_next hG hb⟩
      · intro a W hG hR hO hp
        have h16 : slotOf a 16 = vi slo := hp.1
        have h21 : slotOf a 21 = vi klo := hp.2.1
        refine wp_yields (v := .agg #[vi slo, vi klo, .slice none 0 0, .slice none 0 0]) ?_ ⟨_, rfl, rfl, Below.refl _ _, hG⟩
        simp [slotOf] at h16 h21
        simp [execOp, go_sem, h16, h21]
      · intro a W hG hR hO hp
        refine wp_makes (v := .pointer (some ⟨W.heap.size, 0, none⟩)) (W' := W.alloc (.cells #[.int .i64 0, .int .i64 0, .slice none 0 0, .slice none 0 0] 63)) ?_ ⟨_, rfl, ⟨_, rfl, hG.size, Whole.made _ _ _⟩, (Below.refl _ _).alloc (Nat.le_refl _) _, hG.alloc hG.size _⟩
        skip
        simp [execOp, go_sem]
    · intro W hG hR
      rintro _ rfl _ rfl _ rfl _ rfl _ rfl _ rfl _ rfl _ rfl _ rfl _ rfl _ rfl _ ⟨nb, rfl, hnb, hW⟩
      change wpList _ _ _ _ _ _
      simp only [Act.put, List.setIfInBounds_toArray, List.set_cons_zero, List.set_cons_succ, List.drop_succ_cons, List.drop_zero]
      have n0 := hW.at 0 rfl
      have n1 := hW.at 1 rfl
      have n2 := hW.at 2 rfl
      have n3 := hW.at 3 rfl
      have f0 := hW.free 0
      have f1 := hW.free 1
      have f2 := hW.free 2
      have f3 := hW.free 3
      have HM2 : Hid (TruthMid w 84 slo klo #[.slice A n ap, vi slo, vi shi, vi klo, vi khi, vi melt] nb (.slice none 0 0) (.slice none 0 0) ((((W.setCell ⟨nb, 0, none⟩ (vi slo)).setCell ⟨nb, 1, none⟩ (vi klo)).setCell ⟨nb, 2, none⟩ (.slice none 0 0)).setCell ⟨nb, 3, none⟩ (.slice none 0 0))) :=
        HP.out.mid ((((hG.setCell (p := ⟨nb, 0, none⟩) hnb _).setCell (p := ⟨nb, 1, none⟩) hnb _).setCell (p := ⟨nb, 2, none⟩) hnb _).setCell (p := ⟨nb, 3, none⟩) hnb _) ((((hW.set 0 _).set 1 _).set 2 _).set 3 _) hnb
      clear hW hG hR e0 e1 e2 e3 e4
      go_wp2_with fail
      go_meet
      exact ⟨_, rfl, HM2.out⟩
  case rest =>
    obtain ⟨tb, rfl, hmid⟩ := hcut
    clear e0 e1 e2 e3 e4 hlt HP
    have c0 := hmid.b1.at 0 (v := .slice A n ap) rfl
    obtain ⟨cs, hcs⟩ : ∃ cs : Array Value, cs = #[.slice A n ap, vi slo, vi shi, vi klo, vi khi, vi melt] := ⟨_, rfl⟩
    rw [← hcs] at hmid
    clear hcs
    have HT := Lib.hid hmid
    clear hmid
    go_wp2
    clear c0
    go_loopw [9, 26] (fun _ i wr => ∃ (k : Nat) (v : Value), k ≤ n ∧ i = .int .i64 k ∧ TruthMid w 84 slo klo cs tb v (.slice none 0 0) wr ∧ wr.ownsRow w.heap.size 3 1 v k ((l.take k).flatMap fun c => intL c.lo)) (fun _ i _ => n - (intOf i).toNat)
    case atStart => exact ⟨0, _, Nat.zero_le _, rfl, HT.out, by simp, .inl ⟨rfl, rfl⟩⟩
    case round =>
      obtain ⟨k, v, hk, rfl, hmid, hown⟩ := hrel
      clear HT
      by_cases hlt : k < n
      · obtain ⟨c, hck⟩ := get_of_lt (l := l) (k := k) (by have := HN.out; omega)
        obtain ⟨b2, off, eA, _, h0, h1, h2, h3, h4, h5, h6⟩ := row7 ((HC.out).below hmid.below) hck
        subst eA
        have HK := Lib.hid hck
        obtain ⟨cb, hcb⟩ : ∃ cb, cb = wr.heap.size := ⟨_, rfl⟩
        have H5 : Hid (TruthMid w 84 slo klo cs tb v (.slice none 0 0) (wr.alloc (.cells #[vi c.lo, vi c.hi, vi c.cap, vi c.keep, vi c.pass, vi c.to, vi c.pump] 99)) ∧ (wr.alloc (.cells #[vi c.lo, vi c.hi, vi c.cap, vi c.keep, vi c.pass, vi c.to, vi c.pump] 99)).ownsRow w.heap.size 3 1 v k ((l.take k).flatMap fun c => intL c.lo) ∧ Whole (wr.alloc (.cells #[vi c.lo, vi c.hi, vi c.cap, vi c.keep, vi c.pass, vi c.to, vi c.pump] 99)) cb 99 #[vi c.lo, vi c.hi, vi c.cap, vi c.keep, vi c.pass, vi c.to, vi c.pump]) :=
          ⟨hmid.cell _, hown.alloc _, hcb ▸ Whole.made _ _ _⟩
        clear hmid hown hck
        go_upto_region 5 with fail
        rw [← hcb]
        refine gen_world (fun W => TruthMid w 84 slo klo cs tb v (.slice none 0 0) W ∧ W.ownsRow w.heap.size 3 1 v k ((l.take k).flatMap fun c => intL c.lo) ∧ Whole W cb 99 #[vi c.lo, vi c.hi, vi c.cap, vi c.keep, vi c.pass, vi c.to, vi c.pump]) H5.out ?_
        clear H5 hcb h0 h1 h2 h3 h4 h5 h6
        rintro w5 ⟨hm5, ho5, hc5⟩
        have g0 := hm5.b0.at 0 (v := .func (.func 84) #[] #[]) rfl
        have g1 := hm5.bt.at 2 (v := v) rfl
        have g2 := hc5.at 0 rfl
        have g3 := hc5.at 1 rfl
        obtain ⟨vA, vc, rfl⟩ := own_form ho5
        have H5 := Lib.hid (And.intro hm5 ho5)
        clear hm5 ho5 hc5
        refine wp_words (by kernel_rfl) (region_told 8 (by kernel_rfl) (by kernel_rfl) (fun W => Below w5.heap.size w5 W) newer (pickD [vIs (.pointer (some ⟨tb, 2, none⟩)), vIs (.slice vA k vc), vIs (.pointer (some ⟨w.heap.size, 0, none⟩)), vIs (.func (.func 84) #[] #[]), vIs (.pointer (some ⟨cb, 0, none⟩)), vIs (.agg #[vi c.lo, vi c.hi]), vIs (vi c.lo), vOne w5.heap.size 3 #[vi c.lo]]) (fun h k => newer_trans h k) (pickD_stable _ ⟨vIs_st, vIs_st, vIs_st, vIs_st, vIs_st, vIs_st, vIs_st, vOne_st, trivial⟩) (Below.refl _ w5).drew (Below.refl _ _) ?_ ?_)
        · refine ⟨?_, ?_, ?_, ?_, ?_, ?_, ?_, ?_, trivial⟩
          · intro a W hG hR hO hp
            have h7 := hO.slot 7 (by kernel_rfl)
            refine wp_yields (v := .pointer (some ⟨tb, 2, none⟩)) ?_ ⟨_, rfl, rfl, Below.refl _ _, hG⟩
            simp [slotOf] at h7
            simp [execOp, go_sem, h7]
          · intro a W hG hR hO hp
            have h30 : slotOf a 30 = .pointer (some ⟨tb, 2, none⟩) := hp.1
            have c0 := keep_cell g1 hG
            refine wp_yields (v := .slice vA k vc) ?_ ⟨_, rfl, rfl, Below.refl _ _, hG⟩
            simp [slotOf] at h30
            simp [execOp, go_sem, h30, c0]
          · intro a W hG hR hO hp
            have h3 := hO.slot 3 (by kernel_rfl)
            refine wp_yields (v := .pointer (some ⟨w.heap.size, 0, none⟩)) ?_ ⟨_, rfl, rfl, Below.refl _ _, hG⟩
            simp [slotOf] at h3
            simp [execOp, go_sem, h3]
          · intro a W hG hR hO hp
            have h32 : slotOf a 32 = .pointer (some ⟨w.heap.size, 0, none⟩) := hp.1
            have c0 := keep_cell g0 hG
            refine wp_yields (v := .func (.func 84) #[] #[]) ?_ ⟨_, rfl, rfl, Below.refl _ _, hG⟩
            simp [slotOf] at h32
            simp [execOp, go_sem, h32, c0]
          · intro a W hG hR hO hp
            have h9 := hO.slot 9 (by kernel_rfl)
            refine wp_yields (v := .pointer (some ⟨cb, 0, none⟩)) ?_ ⟨_, rfl, rfl, Below.refl _ _, hG⟩
            simp [slotOf] at h9
            simp [execOp, go_sem, h9]
          · intro a W hG hR hO hp
            have h34 : slotOf a 34 = .pointer (some ⟨cb, 0, none⟩) := hp.1
            have c0 := keep_cell g2 hG
            have c1 := keep_cell g3 hG
            refine wp_yields (v := .agg #[vi c.lo, vi c.hi]) ?_ ⟨_, rfl, rfl, Below.refl _ _, hG⟩
            simp [slotOf] at h34
            simp [execOp, go_sem, h34, c0, c1]
          · intro a W hG hR hO hp
            have h33 : slotOf a 33 = .func (.func 84) #[] #[] := hp.1
            have h35 : slotOf a 35 = .agg #[vi c.lo, vi c.hi] := hp.2.1
            refine wp_enters (f := 84) (args := #[.agg #[vi c.lo, vi c.hi]]) ?_ ((low_any _ _ _).mono ?_)
            · simp [slotOf] at h33 h35
              simp [execOp, go_sem, h33, h35]
            · rintro e w' ⟨rfl, hb⟩
              exact ⟨_, rfl, _, rfl, rfl, hb, below_next hG hb⟩
          · intro a W hG hR hO hp
            have h36 : slotOf a 36 = vi c.lo := hp.1
            refine wp_makes (v := .slice (some ⟨W.heap.size, 0, none⟩) 1 1) (W' := W.alloc (.cells #[vi c.lo] 3)) ?_ ⟨_, rfl, ⟨_, rfl, hG.size, Whole.made _ _ _⟩, (Below.refl _ _).alloc (Nat.le_refl _) _, hG.alloc hG.size _⟩
            simp [slotOf] at h36
            simp [execOp, go_sem, h36]
        · intro W hG hR
          rintro _ rfl _ rfl _ rfl _ rfl _ rfl _ rfl _ rfl _ ⟨nb, rfl, hnb, hW⟩
          change wpList _ _ _ _ _ _
          simp only [Act.put, List.setIfInBounds_toArray, List.set_cons_zero, List.set_cons_succ, List.drop_succ_cons, List.drop_zero]
          obtain ⟨hm5, ho5⟩ := H5.out
          obtain ⟨hi0, hz0, hz1, hz2⟩ := HI.out
          have hm6 := hm5.later hG
          have ho6 := own_below ho5 hG
          refine wpList_append_lies _ rfl (.tmp 31) (.tmp 37) 43 rfl w.heap.size 3 i0 (.int .i64 0) 1 8 Try.underlying43 hi0 hz0 hz1 hz2 rfl (by omega) _ k _ rfl ho6 ⟨nb, 0, none⟩ 1 1 [vi c.lo] rfl rfl (World.news_of_block hW) (by simp [Value.oneCell']) (by omega) (by unfold maxLen; omega) (by omega) hm6.below.size W.heap.size rfl ?_
          intro gg cap w1 hown1 hgrow hat hlt1
          have hm7 := hm6.grown ho6 hgrow
          have ct := hm7.bt.at 2 rfl
          have ft := hm7.bt.free 2
          have HR := Lib.hid (And.intro (hm7.levels (.slice (some ⟨gg, 0, none⟩) (k + 1) cap)) (own_set (i := 2) hown1 (own_ne hown1 hm7.bt (by decide)) (.slice (some ⟨gg, 0, none⟩) (k + 1) cap)))
          clear hm7 hm6 ho6 hm5 ho5 hown1 hgrow hat hlt1 hW hG hR hi0 hz0 hz1 hz2 H5 g0 g1 g2 g3
          go_wp2_with fail
          go_roundw
          case rel => exact ⟨k + 1, _, by omega, by go_num, HR.out.1, by rw [take_flat (fun c : Cell => intL c.lo) l k c HK.out]; exact HR.out.2⟩
          case measure => simp [intOf]; omega
      · have hkn : k = n := by omega
        subst hkn
        have HT := Lib.hid (And.intro hmid hown)
        clear hmid hown
        go_wp2_with fail
        obtain ⟨w0, hw0⟩ : ∃ w0, w0 = wr := ⟨_, rfl⟩
        go_loopw [11, 43] (fun _ i wr2 => ∃ (j : Nat) (u : Value), j ≤ m ∧ i = .int .i64 j ∧ TruthMid w 84 slo klo cs tb v u wr2 ∧ wr2.ownsRow w0.heap.size 3 1 u j ((days.take j).flatMap fun c => intL c.lo) ∧ w0.grownBy wr2 (some tb)) (fun _ i _ => m - (intOf i).toNat)
        case atStart => exact ⟨0, _, Nat.zero_le _, rfl, HT.out.1, ⟨by simp, .inl ⟨rfl, rfl⟩⟩, hw0 ▸ grown_refl _ _⟩
        case round =>
          obtain ⟨j, u, hj, rfl, hmid, hown, hgr⟩ := hrel
          by_cases hjm : j < m
          · obtain ⟨c, hck⟩ := get_of_lt (l := days) (k := j) (by have := HM.out; omega)
            obtain ⟨b2, off, eA, _, h0, h1, h2⟩ := row3 ((HD.out).below hmid.below) hck
            subst eA
            have HK := Lib.hid hck
            obtain ⟨cb, hcb⟩ : ∃ cb, cb = wr.heap.size := ⟨_, rfl⟩
            have H5 : Hid (TruthMid w 84 slo klo cs tb v u (wr.alloc (.cells #[vi c.lo, vi c.hi, vi c.warm] 101)) ∧ (wr.alloc (.cells #[vi c.lo, vi c.hi, vi c.warm] 101)).ownsRow w0.heap.size 3 1 u j ((days.take j).flatMap fun c => intL c.lo) ∧ Whole (wr.alloc (.cells #[vi c.lo, vi c.hi, vi c.warm] 101)) cb 101 #[vi c.lo, vi c.hi, vi c.warm] ∧ w0.grownBy (wr.alloc (.cells #[vi c.lo, vi c.hi, vi c.warm] 101)) (some tb)) :=
              ⟨hmid.cell _, hown.alloc _, hcb ▸ Whole.made _ _ _, grown_alloc hgr _⟩
            clear hmid hown hck hgr
            go_upto_region 10 with fail
            rw [← hcb]
            refine gen_world (fun W => TruthMid w 84 slo klo cs tb v u W ∧ W.ownsRow w0.heap.size 3 1 u j ((days.take j).flatMap fun c => intL c.lo) ∧ Whole W cb 101 #[vi c.lo, vi c.hi, vi c.warm] ∧ w0.grownBy W (some tb)) H5.out ?_
            clear H5 hcb h0 h1 h2
            rintro w5 ⟨hm5, ho5, hc5, hgr5⟩
            have g0 := hm5.b0.at 0 (v := .func (.func 84) #[] #[]) rfl
            have g1 := hm5.bt.at 3 (v := u) rfl
            have g2 := hc5.at 0 rfl
            have g3 := hc5.at 1 rfl
            obtain ⟨vA, vc, rfl⟩ := own_form ho5
            have H5 := Lib.hid (And.intro hm5 (And.intro ho5 hgr5))
            clear hm5 ho5 hc5 hgr5
            refine wp_words (by kernel_rfl) (region_told 8 (by kernel_rfl) (by kernel_rfl) (fun W => Below w5.heap.size w5 W) newer (pickD [vIs (.pointer (some ⟨tb, 3, none⟩)), vIs (.slice vA j vc), vIs (.pointer (some ⟨w.heap.size, 0, none⟩)), vIs (.func (.func 84) #[] #[]), vIs (.pointer (some ⟨cb, 0, none⟩)), vIs (.agg #[vi c.lo, vi c.hi]), vIs (vi c.lo), vOne w5.heap.size 3 #[vi c.lo]]) (fun h k => newer_trans h k) (pickD_stable _ ⟨vIs_st, vIs_st, vIs_st, vIs_st, vIs_st, vIs_st, vIs_st, vOne_st, trivial⟩) (Below.refl _ w5).drew (Below.refl _ _) ?_ ?_)
            · refine ⟨?_, ?_, ?_, ?_, ?_, ?_, ?_, ?_, trivial⟩
              · intro a W hG hR hO hp
                have h7 := hO.slot 7 (by kernel_rfl)
                refine wp_yields (v := .pointer (some ⟨tb, 3, none⟩)) ?_ ⟨_, rfl, rfl, Below.refl _ _, hG⟩
                simp [slotOf] at h7
                simp [execOp, go_sem, h7]
              · intro a W hG hR hO hp
                have h47 : slotOf a 47 = .pointer (some ⟨tb, 3, none⟩) := hp.1
                have c0 := keep_cell g1 hG
                refine wp_yields (v := .slice vA j vc) ?_ ⟨_, rfl, rfl, Below.refl _ _, hG⟩
                simp [slotOf] at h47
                simp [execOp, go_sem, h47, c0]
              · intro a W hG hR hO hp
                have h3 := hO.slot 3 (by kernel_rfl)
                refine wp_yields (v := .pointer (some ⟨w.heap.size, 0, none⟩)) ?_ ⟨_, rfl, rfl, Below.refl _ _, hG⟩
                simp [slotOf] at h3
                simp [execOp, go_sem, h3]
              · intro a W hG hR hO hp
                have h49 : slotOf a 49 = .pointer (some ⟨w.heap.size, 0, none⟩) := hp.1
                have c0 := keep_cell g0 hG
                refine wp_yields (v := .func (.func 84) #[] #[]) ?_ ⟨_, rfl, rfl, Below.refl _ _, hG⟩
                simp [slotOf] at h49
                simp [execOp, go_sem, h49, c0]
              · intro a W hG hR hO hp
                have h11 := hO.slot 11 (by kernel_rfl)
                refine wp_yields (v := .pointer (some ⟨cb, 0, none⟩)) ?_ ⟨_, rfl, rfl, Below.refl _ _, hG⟩
                simp [slotOf] at h11
                simp [execOp, go_sem, h11]
              · intro a W hG hR hO hp
                have h51 : slotOf a 51 = .pointer (some ⟨cb, 0, none⟩) := hp.1
                have c0 := keep_cell g2 hG
                have c1 := keep_cell g3 hG
                refine wp_yields (v := .agg #[vi c.lo, vi c.hi]) ?_ ⟨_, rfl, rfl, Below.refl _ _, hG⟩
                simp [slotOf] at h51
                simp [execOp, go_sem, h51, c0, c1]
              · intro a W hG hR hO hp
                have h50 : slotOf a 50 = .func (.func 84) #[] #[] := hp.1
                have h52 : slotOf a 52 = .agg #[vi c.lo, vi c.hi] := hp.2.1
                refine wp_enters (f := 84) (args := #[.agg #[vi c.lo, vi c.hi]]) ?_ ((low_any _ _ _).mono ?_)
                · simp [slotOf] at h50 h52
                  simp [execOp, go_sem, h50, h52]
                · rintro e w' ⟨rfl, hb⟩
                  exact ⟨_, rfl, _, rfl, rfl, hb, below_next hG hb⟩
              · intro a W hG hR hO hp
                have h53 : slotOf a 53 = vi c.lo := hp.1
                refine wp_makes (v := .slice (some ⟨W.heap.size, 0, none⟩) 1 1) (W' := W.alloc (.cells #[vi c.lo] 3)) ?_ ⟨_, rfl, ⟨_, rfl, hG.size, Whole.made _ _ _⟩, (Below.refl _ _).alloc (Nat.le_refl _) _, hG.alloc hG.size _⟩
                simp [slotOf] at h53
                simp [execOp, go_sem, h53]
            · intro W hG hR
              rintro _ rfl _ rfl _ rfl _ rfl _ rfl _ rfl _ rfl _ ⟨nb, rfl, hnb, hW⟩
              change wpList _ _ _ _ _ _
              simp only [Act.put, List.setIfInBounds_toArray, List.set_cons_zero, List.set_cons_succ, List.drop_succ_cons, List.drop_zero]
              obtain ⟨hm5, ho5, hgr5⟩ := H5.out
              obtain ⟨hi0, hz0, hz1, hz2⟩ := HI.out
              have hm6 := hm5.later hG
              have ho6 := own_below ho5 hG
              have hgr6 := grown_below hgr5 hG
              refine wpList_append_lies _ rfl (.tmp 48) (.tmp 54) 43 rfl w0.heap.size 3 i0 (.int .i64 0) 1 8 Try.underlying43 hi0 hz0 hz1 hz2 rfl (by omega) _ j _ rfl ho6 ⟨nb, 0, none⟩ 1 1 [vi c.lo] rfl rfl (World.news_of_block hW) (by simp [Value.oneCell']) (by omega) (by unfold maxLen; omega) (by omega) hgr6.size W.heap.size rfl ?_
              intro gg cap w1 hown1 hgrow hat hlt1
              have hm7 := hm6.grown (own_more ho6 (hw0 ▸ HT.out.1.below.size)) hgrow
              have hgr7 := grown_row hgr6 hgrow (own_ge ho6)
              have ct := hm7.bt.at 3 rfl
              have ft := hm7.bt.free 3
              have HR := Lib.hid (And.intro (hm7.rains (.slice (some ⟨gg, 0, none⟩) (j + 1) cap)) (And.intro (own_set (i := 3) hown1 (own_ne hown1 hm7.bt (by decide)) (.slice (some ⟨gg, 0, none⟩) (j + 1) cap)) (grown_set (p := ⟨tb, 3, none⟩) hgr7 (.inl rfl) (.slice (some ⟨gg, 0, none⟩) (j + 1) cap))))
              clear hm7 hm6 ho6 hm5 ho5 hown1 hgrow hat hlt1 hW hG hR hi0 hz0 hz1 hz2 H5 g0 g1 g2 g3 hgr5 hgr6 hgr7
              go_wp2_with fail
              go_roundw
              case rel => exact ⟨j + 1, _, by omega, by go_num, HR.out.1, by rw [take_flat (fun c : Day => intL c.lo) days j c HK.out]; exact HR.out.2.1, HR.out.2.2⟩
              case measure => simp [intOf]; omega
          · have hjn : j = m := by omega
            subst hjn
            obtain ⟨ht1, ht2⟩ := HT.out
            have hsw : w.heap.size ≤ w0.heap.size := hw0 ▸ ht1.below.size
            have hlv : wr.ownsRow w.heap.size 3 1 v k ((l.take k).flatMap fun c => intL c.lo) := (hw0 ▸ ht2 : w0.ownsRow w.heap.size 3 1 v k ((l.take k).flatMap fun c => intL c.lo)).kept hgr (.inr (own_ne ht2 ht1.bt (by decide)))
            rw [List.take_of_length_le (by have := HN.out; omega)] at hlv
            rw [List.take_of_length_le (by have := HM.out; omega)] at hown
            obtain ⟨LA, lc, rfl⟩ := own_form hlv
            obtain ⟨RA, rc, rfl⟩ := own_form hown
            have t0 := hmid.bt.at 0 (v := vi slo) rfl
            have t1 := hmid.bt.at 1 (v := vi klo) rfl
            have t2 := hmid.bt.at 2 rfl
            have t3 := hmid.bt.at 3 rfl
            have r0 := hmid.b2.at 0 rfl
            have r1 := hmid.b2.at 1 rfl
            have r2 := hmid.b2.at 2 rfl
            have r3 := hmid.b2.at 3 rfl
            have q0 := hmid.b2.free 0
            have q1 := hmid.b2.free 1
            have q2 := hmid.b2.free 2
            have q3 := hmid.b2.free 3
            have nl := own_ne hlv hmid.b2 (by decide)
            have nr := own_ne hown hmid.b2 (by decide)
            have HE : Hid (ended w false ⟨l, slo, shi, klo, khi, melt⟩ days (.returned (truthV slo klo LA k lc RA j rc)) ((((wr.setCell ⟨w.heap.size + 1 + 1, 0, none⟩ (vi slo)).setCell ⟨w.heap.size + 1 + 1, 1, none⟩ (vi klo)).setCell ⟨w.heap.size + 1 + 1, 2, none⟩ (.slice LA k lc)).setCell ⟨w.heap.size + 1 + 1, 3, none⟩ (.slice RA j rc))) := by
              have ol := own_set (i := 3) (own_set (i := 2) (own_set (i := 1) (own_set (i := 0) hlv nl (vi slo)) nl (vi klo)) nl (.slice LA k lc)) nl (.slice RA j rc)
              have orr := own_set (i := 3) (own_set (i := 2) (own_set (i := 1) (own_set (i := 0) hown nr (vi slo)) nr (vi klo)) nr (.slice LA k lc)) nr (.slice RA j rc)
              have el : (l.flatMap fun c => intL c.lo) = (l.map fun c => endOf false c.lo c.hi).flatMap intL := by rw [List.flatMap_map]; rfl
              have er : (days.flatMap fun c => intL c.lo) = (days.map fun c => endOf false c.lo c.hi).flatMap intL := by rw [List.flatMap_map]; rfl
              rw [el] at ol
              rw [er] at orr
              have bb := hmid.below
              refine ⟨LA, lc, RA, rc, ?_, row_of_own (by omega) (fun _ => rfl) ol, row_of_own (by omega) (fun _ => rfl) orr, (((bb.setCell (by dsimp only; omega) _).setCell (by dsimp only; omega) _).setCell (by dsimp only; omega) _).setCell (by dsimp only; omega) _, fun a e => own_ge ol a.block (by subst e; rfl), fun a e => Nat.le_trans hsw (own_ge orr a.block (by subst e; rfl))⟩
              rw [← HN.out, ← HM.out]
              rfl
            clear hlv hown hmid nl nr hgr ht1 ht2 HT hw0 hsw
            go_wp2_with fail
            exact bodyPost_ret (v := truthV slo klo LA k lc RA j rc) (by simp [results, Try.results54, go_sem, r0, r1, r2, r3]) rfl HE.out

set_option maxRecDepth 100000 in
set_option maxHeartbeats 2000000 in
theorem truth_hi (g : Gnd) (A : Option Addr) (ap : Nat) (days : List Day) (D : Option Addr) (dp : Nat) (w : World) (hn : g.cells.length ≤ 1000) (hm : days.length ≤ 1000) (hc : Row cellL 7 w w.heap.size A g.cells) (hd : Row dayL 3 w w.heap.size D days) :
    Calls Try.prog 54 #[.agg #[.func (.func 85) #[] #[]], gndV A ap g, .slice D days.length dp] w (ended w true g days) := by
  obtain ⟨l, slo, shi, klo, khi, melt⟩ := g
  unfold gndV
  dsimp only at hn hc ⊢
  have HC := Lib.hid hc
  have HD := Lib.hid hd
  clear hc hd
  obtain ⟨n, hnl⟩ : ∃ n, n = l.length := ⟨_, rfl⟩
  obtain ⟨m, hml⟩ : ∃ m, m = days.length := ⟨_, rfl⟩
  rw [← hnl] at hn ⊢
  rw [← hml] at hm ⊢
  have HN := Lib.hid hnl
  have HM := Lib.hid hml
  clear hnl hml
  obtain ⟨i0, hi0, hz0, hz1, hz2⟩ := info_parts Try.info3
  have HI := Lib.hid (And.intro hi0 (And.intro hz0 (And.intro hz1 hz2)))
  clear hi0 hz0 hz1 hz2
  go_enter Try.func54, Try.ntmps54
  go_wp2
  go_upto_region 1 with fail
  refine gen_world (TruthPre w 85 #[.slice A n ap, vi slo, vi shi, vi klo, vi khi, vi melt]) (TruthPre.made _ _ _) ?_
  intro wv hp
  have e0 := hp.b0.at 0 (v := .func (.func 85) #[] #[]) rfl
  have e1 := hp.b1.at 1 (v := vi slo) rfl
  have e2 := hp.b1.at 2 (v := vi shi) rfl
  have e3 := hp.b1.at 3 (v := vi klo) rfl
  have e4 := hp.b1.at 4 (v := vi khi) rfl
  have hlt := hp.b2.lt
  have HP := Lib.hid hp
  clear hp
  go_cut [7] (fun p W => ∃ tb, p = .pointer (some ⟨tb, 0, none⟩) ∧ TruthMid w 85 shi khi #[.slice A n ap, vi slo, vi shi, vi klo, vi khi, vi melt] tb (.slice none 0 0) (.slice none 0 0) W)
  case first =>
    refine wp_words (by kernel_rfl) (region_told 12 (by kernel_rfl) (by kernel_rfl) (fun W => Below wv.heap.size wv W) newer (pickD [vIs (.pointer (some ⟨w.heap.size, 0, none⟩)), vIs (.func (.func 85) #[] #[]), vIs (.pointer (some ⟨w.heap.size + 1, 1, none⟩)), vIs (.agg #[vi slo, vi shi]), vIs (vi shi), vIs (.pointer (some ⟨w.heap.size, 0, none⟩)), vIs (.func (.func 85) #[] #[]), vIs (.pointer (some ⟨w.heap.size + 1, 3, none⟩)), vIs (.agg #[vi klo, vi khi]), vIs (vi khi), vIs (.agg #[vi shi, vi khi, .slice none 0 0, .slice none 0 0]), vNew wv.heap.size 63 #[.int .i64 0, .int .i64 0, .slice none 0 0, .slice none 0 0]]) (fun h k => newer_trans h k) (pickD_stable _ ⟨vIs_st, vIs_st, vIs_st, vIs_st, vIs_st, vIs_st, vIs_st, vIs_st, vIs_st, vIs_st, vIs_st, vNew_st, trivial⟩) (Below.refl _ wv).drew (Below.refl _ _) ?_ ?_)
    · refine ⟨?_, ?_, ?_, ?_, ?_, ?_, ?_, ?_, ?_, ?_, ?_, ?_, trivial⟩
      · intro a W hG hR hO hp
        have h3 := hO.slot 3 (by kernel_rfl)
        refine wp_yields (v := .pointer (some ⟨w.heap.size, 0, none⟩)) ?_ ⟨_, rfl, rfl, Below.refl _ _, hG⟩
        simp [slotOf] at h3
        simp [execOp, go_sem, h3]
      · intro a W hG hR hO hp
        have h12 : slotOf a 12 = .pointer (some ⟨w.heap.size, 0, none⟩) := hp.1
        have c0 := keep_cell e0 hG
        refine wp_yields (v := .func (.func 85) #[] #[]) ?_ ⟨_, rfl, rfl, Below.refl _ _, hG⟩
        simp [slotOf] at h12
        simp [execOp, go_sem, h12, c0]
      · intro a W hG hR hO hp
        have h4 := hO.slot 4 (by kernel_rfl)
        refine wp_yields (v := .pointer (some ⟨w.heap.size + 1, 1, none⟩)) ?_ ⟨_, rfl, rfl, Below.refl _ _, hG⟩
        simp [slotOf] at h4
        simp [execOp, go_sem, h4]
      · intro a W hG hR hO hp
        have h14 : slotOf a 14 = .pointer (some ⟨w.heap.size + 1, 1, none⟩) := hp.1
        have c0 := keep_cell e1 hG
        have c1 := keep_cell e2 hG
        refine wp_yields (v := .agg #[vi slo, vi shi]) ?_ ⟨_, rfl, rfl, Below.refl _ _, hG⟩
        simp [slotOf] at h14
        simp [execOp, go_sem, h14, c0, c1]
      · intro a W hG hR hO hp
        have h13 : slotOf a 13 = .func (.func 85) #[] #[] := hp.1
        have h15 : slotOf a 15 = .agg #[vi slo, vi shi] := hp.2.1
        refine wp_enters (f := 85) (args := #[.agg #[vi slo, vi shi]]) ?_ ((high_any _ _ _).mono ?_)
        · simp [slotOf] at h13 h15
          simp [execOp, go_sem, h13, h15]
        · rintro e w' ⟨rfl, hb⟩
          exact ⟨_, rfl, _, rfl, rfl, hb, below_next hG hb⟩
      · intro a W hG hR hO hp
        have h3 := hO.slot 3 (by kernel_rfl)
        refine wp_yields (v := .pointer (some ⟨w.heap.size, 0, none⟩)) ?_ ⟨_, rfl, rfl, Below.refl _ _, hG⟩
        simp [slotOf] at h3
        simp [execOp, go_sem, h3]
      · intro a W hG hR hO hp
        have h17 : slotOf a 17 = .pointer (some ⟨w.heap.size, 0, none⟩) := hp.1
        have c0 := keep_cell e0 hG
        refine wp_yields (v := .func (.func 85) #[] #[]) ?_ ⟨_, rfl, rfl, Below.refl _ _, hG⟩
        simp [slotOf] at h17
        simp [execOp, go_sem, h17, c0]
      · intro a W hG hR hO hp
        have h4 := hO.slot 4 (by kernel_rfl)
        refine wp_yields (v := .pointer (some ⟨w.heap.size + 1, 3, none⟩)) ?_ ⟨_, rfl, rfl, Below.refl _ _, hG⟩
        simp [slotOf] at h4
        simp [execOp, go_sem, h4]
      · intro a W hG hR hO hp
        have h19 : slotOf a 19 = .pointer (some ⟨w.heap.size + 1, 3, none⟩) := hp.1
        have c0 := keep_cell e3 hG
        have c1 := keep_cell e4 hG
        refine wp_yields (v := .agg #[vi klo, vi khi]) ?_ ⟨_, rfl, rfl, Below.refl _ _, hG⟩
        simp [slotOf] at h19
        simp [execOp, go_sem, h19, c0, c1]
      · intro a W hG hR hO hp
        have h18 : slotOf a 18 = .func (.func 85) #[] #[] := hp.1
        have h20 : slotOf a 20 = .agg #[vi klo, vi khi] := hp.2.1
        refine wp_enters (f := 85) (args := #[.agg #[vi klo, vi khi]]) ?_ ((high_any _ _ _).mono ?_)
        · simp [slotOf] at h18 h20
          simp [execOp, go_sem, h18, h20]
        · rintro e w' ⟨rfl, hb⟩
          exact ⟨_, rfl, _, rfl, rfl, hb, below_next hG hb⟩
      · intro a W hG hR hO hp
        have h16 : slotOf a 16 = vi shi := hp.1
        have h21 : slotOf a 21 = vi khi := hp.2.1
        refine wp_yields (v := .agg #[vi shi, vi khi, .slice none 0 0, .slice none 0 0]) ?_ ⟨_, rfl, rfl, Below.refl _ _, hG⟩
        simp [slotOf] at h16 h21
        simp [execOp, go_sem, h16, h21]
      · intro a W hG hR hO hp
        refine wp_makes (v := .pointer (some ⟨W.heap.size, 0, none⟩)) (W' := W.alloc (.cells #[.int .i64 0, .int .i64 0, .slice none 0 0, .slice none 0 0] 63)) ?_ ⟨_, rfl, ⟨_, rfl, hG.size, Whole.made _ _ _⟩, (Below.refl _ _).alloc (Nat.le_refl _) _, hG.alloc hG.size _⟩
        skip
        simp [execOp, go_sem]
    · intro W hG hR
      rintro _ rfl _ rfl _ rfl _ rfl _ rfl _ rfl _ rfl _ rfl _ rfl _ rfl _ rfl _ ⟨nb, rfl, hnb, hW⟩
      change wpList _ _ _ _ _ _
      simp only [Act.put, List.setIfInBounds_toArray, List.set_cons_zero, List.set_cons_succ, List.drop_succ_cons, List.drop_zero]
      have n0 := hW.at 0 rfl
      have n1 := hW.at 1 rfl
      have n2 := hW.at 2 rfl
      have n3 := hW.at 3 rfl
      have f0 := hW.free 0
      have f1 := hW.free 1
      have f2 := hW.free 2
      have f3 := hW.free 3
      have HM2 : Hid (TruthMid w 85 shi khi #[.slice A n ap, vi slo, vi shi, vi klo, vi khi, vi melt] nb (.slice none 0 0) (.slice none 0 0) ((((W.setCell ⟨nb, 0, none⟩ (vi shi)).setCell ⟨nb, 1, none⟩ (vi khi)).setCell ⟨nb, 2, none⟩ (.slice none 0 0)).setCell ⟨nb, 3, none⟩ (.slice none 0 0))) :=
        HP.out.mid ((((hG.setCell (p := ⟨nb, 0, none⟩) hnb _).setCell (p := ⟨nb, 1, none⟩) hnb _).setCell (p := ⟨nb, 2, none⟩) hnb _).setCell (p := ⟨nb, 3, none⟩) hnb _) ((((hW.set 0 _).set 1 _).set 2 _).set 3 _) hnb
      clear hW hG hR e0 e1 e2 e3 e4
      go_wp2_with fail
      go_meet
      exact ⟨_, rfl, HM2.out⟩
  case rest =>
    obtain ⟨tb, rfl, hmid⟩ := hcut
    clear e0 e1 e2 e3 e4 hlt HP
    have c0 := hmid.b1.at 0 (v := .slice A n ap) rfl
    obtain ⟨cs, hcs⟩ : ∃ cs : Array Value, cs = #[.slice A n ap, vi slo, vi shi, vi klo, vi khi, vi melt] := ⟨_, rfl⟩
    rw [← hcs] at hmid
    clear hcs
    have HT := Lib.hid hmid
    clear hmid
    go_wp2
    clear c0
    go_loopw [9, 26] (fun _ i wr => ∃ (k : Nat) (v : Value), k ≤ n ∧ i = .int .i64 k ∧ TruthMid w 85 shi khi cs tb v (.slice none 0 0) wr ∧ wr.ownsRow w.heap.size 3 1 v k ((l.take k).flatMap fun c => intL c.hi)) (fun _ i _ => n - (intOf i).toNat)
    case atStart => exact ⟨0, _, Nat.zero_le _, rfl, HT.out, by simp, .inl ⟨rfl, rfl⟩⟩
    case round =>
      obtain ⟨k, v, hk, rfl, hmid, hown⟩ := hrel
      clear HT
      by_cases hlt : k < n
      · obtain ⟨c, hck⟩ := get_of_lt (l := l) (k := k) (by have := HN.out; omega)
        obtain ⟨b2, off, eA, _, h0, h1, h2, h3, h4, h5, h6⟩ := row7 ((HC.out).below hmid.below) hck
        subst eA
        have HK := Lib.hid hck
        obtain ⟨cb, hcb⟩ : ∃ cb, cb = wr.heap.size := ⟨_, rfl⟩
        have H5 : Hid (TruthMid w 85 shi khi cs tb v (.slice none 0 0) (wr.alloc (.cells #[vi c.lo, vi c.hi, vi c.cap, vi c.keep, vi c.pass, vi c.to, vi c.pump] 99)) ∧ (wr.alloc (.cells #[vi c.lo, vi c.hi, vi c.cap, vi c.keep, vi c.pass, vi c.to, vi c.pump] 99)).ownsRow w.heap.size 3 1 v k ((l.take k).flatMap fun c => intL c.hi) ∧ Whole (wr.alloc (.cells #[vi c.lo, vi c.hi, vi c.cap, vi c.keep, vi c.pass, vi c.to, vi c.pump] 99)) cb 99 #[vi c.lo, vi c.hi, vi c.cap, vi c.keep, vi c.pass, vi c.to, vi c.pump]) :=
          ⟨hmid.cell _, hown.alloc _, hcb ▸ Whole.made _ _ _⟩
        clear hmid hown hck
        go_upto_region 5 with fail
        rw [← hcb]
        refine gen_world (fun W => TruthMid w 85 shi khi cs tb v (.slice none 0 0) W ∧ W.ownsRow w.heap.size 3 1 v k ((l.take k).flatMap fun c => intL c.hi) ∧ Whole W cb 99 #[vi c.lo, vi c.hi, vi c.cap, vi c.keep, vi c.pass, vi c.to, vi c.pump]) H5.out ?_
        clear H5 hcb h0 h1 h2 h3 h4 h5 h6
        rintro w5 ⟨hm5, ho5, hc5⟩
        have g0 := hm5.b0.at 0 (v := .func (.func 85) #[] #[]) rfl
        have g1 := hm5.bt.at 2 (v := v) rfl
        have g2 := hc5.at 0 rfl
        have g3 := hc5.at 1 rfl
        obtain ⟨vA, vc, rfl⟩ := own_form ho5
        have H5 := Lib.hid (And.intro hm5 ho5)
        clear hm5 ho5 hc5
        refine wp_words (by kernel_rfl) (region_told 8 (by kernel_rfl) (by kernel_rfl) (fun W => Below w5.heap.size w5 W) newer (pickD [vIs (.pointer (some ⟨tb, 2, none⟩)), vIs (.slice vA k vc), vIs (.pointer (some ⟨w.heap.size, 0, none⟩)), vIs (.func (.func 85) #[] #[]), vIs (.pointer (some ⟨cb, 0, none⟩)), vIs (.agg #[vi c.lo, vi c.hi]), vIs (vi c.hi), vOne w5.heap.size 3 #[vi c.hi]]) (fun h k => newer_trans h k) (pickD_stable _ ⟨vIs_st, vIs_st, vIs_st, vIs_st, vIs_st, vIs_st, vIs_st, vOne_st, trivial⟩) (Below.refl _ w5).drew (Below.refl _ _) ?_ ?_)
        · refine ⟨?_, ?_, ?_, ?_, ?_, ?_, ?_, ?_, trivial⟩
          · intro a W hG hR hO hp
            have h7 := hO.slot 7 (by kernel_rfl)
            refine wp_yields (v := .pointer (some ⟨tb, 2, none⟩)) ?_ ⟨_, rfl, rfl, Below.refl _ _, hG⟩
            simp [slotOf] at h7
            simp [execOp, go_sem, h7]
          · intro a W hG hR hO hp
            have h30 : slotOf a 30 = .pointer (some ⟨tb, 2, none⟩) := hp.1
            have c0 := keep_cell g1 hG
            refine wp_yields (v := .slice vA k vc) ?_ ⟨_, rfl, rfl, Below.refl _ _, hG⟩
            simp [slotOf] at h30
            simp [execOp, go_sem, h30, c0]
          · intro a W hG hR hO hp
            have h3 := hO.slot 3 (by kernel_rfl)
            refine wp_yields (v := .pointer (some ⟨w.heap.size, 0, none⟩)) ?_ ⟨_, rfl, rfl, Below.refl _ _, hG⟩
            simp [slotOf] at h3
            simp [execOp, go_sem, h3]
          · intro a W hG hR hO hp
            have h32 : slotOf a 32 = .pointer (some ⟨w.heap.size, 0, none⟩) := hp.1
            have c0 := keep_cell g0 hG
            refine wp_yields (v := .func (.func 85) #[] #[]) ?_ ⟨_, rfl, rfl, Below.refl _ _, hG⟩
            simp [slotOf] at h32
            simp [execOp, go_sem, h32, c0]
          · intro a W hG hR hO hp
            have h9 := hO.slot 9 (by kernel_rfl)
            refine wp_yields (v := .pointer (some ⟨cb, 0, none⟩)) ?_ ⟨_, rfl, rfl, Below.refl _ _, hG⟩
            simp [slotOf] at h9
            simp [execOp, go_sem, h9]
          · intro a W hG hR hO hp
            have h34 : slotOf a 34 = .pointer (some ⟨cb, 0, none⟩) := hp.1
            have c0 := keep_cell g2 hG
            have c1 := keep_cell g3 hG
            refine wp_yields (v := .agg #[vi c.lo, vi c.hi]) ?_ ⟨_, rfl, rfl, Below.refl _ _, hG⟩
            simp [slotOf] at h34
            simp [execOp, go_sem, h34, c0, c1]
          · intro a W hG hR hO hp
            have h33 : slotOf a 33 = .func (.func 85) #[] #[] := hp.1
            have h35 : slotOf a 35 = .agg #[vi c.lo, vi c.hi] := hp.2.1
            refine wp_enters (f := 85) (args := #[.agg #[vi c.lo, vi c.hi]]) ?_ ((high_any _ _ _).mono ?_)
            · simp [slotOf] at h33 h35
              simp [execOp, go_sem, h33, h35]
            · rintro e w' ⟨rfl, hb⟩
              exact ⟨_, rfl, _, rfl, rfl, hb, below_next hG hb⟩
          · intro a W hG hR hO hp
            have h36 : slotOf a 36 = vi c.hi := hp.1
            refine wp_makes (v := .slice (some ⟨W.heap.size, 0, none⟩) 1 1) (W' := W.alloc (.cells #[vi c.hi] 3)) ?_ ⟨_, rfl, ⟨_, rfl, hG.size, Whole.made _ _ _⟩, (Below.refl _ _).alloc (Nat.le_refl _) _, hG.alloc hG.size _⟩
            simp [slotOf] at h36
            simp [execOp, go_sem, h36]
        · intro W hG hR
          rintro _ rfl _ rfl _ rfl _ rfl _ rfl _ rfl _ rfl _ ⟨nb, rfl, hnb, hW⟩
          change wpList _ _ _ _ _ _
          simp only [Act.put, List.setIfInBounds_toArray, List.set_cons_zero, List.set_cons_succ, List.drop_succ_cons, List.drop_zero]
          obtain ⟨hm5, ho5⟩ := H5.out
          obtain ⟨hi0, hz0, hz1, hz2⟩ := HI.out
          have hm6 := hm5.later hG
          have ho6 := own_below ho5 hG
          refine wpList_append_lies _ rfl (.tmp 31) (.tmp 37) 43 rfl w.heap.size 3 i0 (.int .i64 0) 1 8 Try.underlying43 hi0 hz0 hz1 hz2 rfl (by omega) _ k _ rfl ho6 ⟨nb, 0, none⟩ 1 1 [vi c.hi] rfl rfl (World.news_of_block hW) (by simp [Value.oneCell']) (by omega) (by unfold maxLen; omega) (by omega) hm6.below.size W.heap.size rfl ?_
          intro gg cap w1 hown1 hgrow hat hlt1
          have hm7 := hm6.grown ho6 hgrow
          have ct := hm7.bt.at 2 rfl
          have ft := hm7.bt.free 2
          have HR := Lib.hid (And.intro (hm7.levels (.slice (some ⟨gg, 0, none⟩) (k + 1) cap)) (own_set (i := 2) hown1 (own_ne hown1 hm7.bt (by decide)) (.slice (some ⟨gg, 0, none⟩) (k + 1) cap)))
          clear hm7 hm6 ho6 hm5 ho5 hown1 hgrow hat hlt1 hW hG hR hi0 hz0 hz1 hz2 H5 g0 g1 g2 g3
          go_wp2_with fail
          go_roundw
          case rel => exact ⟨k + 1, _, by omega, by go_num, HR.out.1, by rw [take_flat (fun c : Cell => intL c.hi) l k c HK.out]; exact HR.out.2⟩
          case measure => simp [intOf]; omega
      · have hkn : k = n := by omega
        subst hkn
        have HT := Lib.hid (And.intro hmid hown)
        clear hmid hown
        go_wp2_with fail
        obtain ⟨w0, hw0⟩ : ∃ w0, w0 = wr := ⟨_, rfl⟩
        go_loopw [11, 43] (fun _ i wr2 => ∃ (j : Nat) (u : Value), j ≤ m ∧ i = .int .i64 j ∧ TruthMid w 85 shi khi cs tb v u wr2 ∧ wr2.ownsRow w0.heap.size 3 1 u j ((days.take j).flatMap fun c => intL c.hi) ∧ w0.grownBy wr2 (some tb)) (fun _ i _ => m - (intOf i).toNat)
        case atStart => exact ⟨0, _, Nat.zero_le _, rfl, HT.out.1, ⟨by simp, .inl ⟨rfl, rfl⟩⟩, hw0 ▸ grown_refl _ _⟩
        case round =>
          obtain ⟨j, u, hj, rfl, hmid, hown, hgr⟩ := hrel
          by_cases hjm : j < m
          · obtain ⟨c, hck⟩ := get_of_lt (l := days) (k := j) (by have := HM.out; omega)
            obtain ⟨b2, off, eA, _, h0, h1, h2⟩ := row3 ((HD.out).below hmid.below) hck
            subst eA
            have HK := Lib.hid hck
            obtain ⟨cb, hcb⟩ : ∃ cb, cb = wr.heap.size := ⟨_, rfl⟩
            have H5 : Hid (TruthMid w 85 shi khi cs tb v u (wr.alloc (.cells #[vi c.lo, vi c.hi, vi c.warm] 101)) ∧ (wr.alloc (.cells #[vi c.lo, vi c.hi, vi c.warm] 101)).ownsRow w0.heap.size 3 1 u j ((days.take j).flatMap fun c => intL c.hi) ∧ Whole (wr.alloc (.cells #[vi c.lo, vi c.hi, vi c.warm] 101)) cb 101 #[vi c.lo, vi c.hi, vi c.warm] ∧ w0.grownBy (wr.alloc (.cells #[vi c.lo, vi c.hi, vi c.warm] 101)) (some tb)) :=
              ⟨hmid.cell _, hown.alloc _, hcb ▸ Whole.made _ _ _, grown_alloc hgr _⟩
            clear hmid hown hck hgr
            go_upto_region 10 with fail
            rw [← hcb]
            refine gen_world (fun W => TruthMid w 85 shi khi cs tb v u W ∧ W.ownsRow w0.heap.size 3 1 u j ((days.take j).flatMap fun c => intL c.hi) ∧ Whole W cb 101 #[vi c.lo, vi c.hi, vi c.warm] ∧ w0.grownBy W (some tb)) H5.out ?_
            clear H5 hcb h0 h1 h2
            rintro w5 ⟨hm5, ho5, hc5, hgr5⟩
            have g0 := hm5.b0.at 0 (v := .func (.func 85) #[] #[]) rfl
            have g1 := hm5.bt.at 3 (v := u) rfl
            have g2 := hc5.at 0 rfl
            have g3 := hc5.at 1 rfl
            obtain ⟨vA, vc, rfl⟩ := own_form ho5
            have H5 := Lib.hid (And.intro hm5 (And.intro ho5 hgr5))
            clear hm5 ho5 hc5 hgr5
            refine wp_words (by kernel_rfl) (region_told 8 (by kernel_rfl) (by kernel_rfl) (fun W => Below w5.heap.size w5 W) newer (pickD [vIs (.pointer (some ⟨tb, 3, none⟩)), vIs (.slice vA j vc), vIs (.pointer (some ⟨w.heap.size, 0, none⟩)), vIs (.func (.func 85) #[] #[]), vIs (.pointer (some ⟨cb, 0, none⟩)), vIs (.agg #[vi c.lo, vi c.hi]), vIs (vi c.hi), vOne w5.heap.size 3 #[vi c.hi]]) (fun h k => newer_trans h k) (pickD_stable _ ⟨vIs_st, vIs_st, vIs_st, vIs_st, vIs_st, vIs_st, vIs_st, vOne_st, trivial⟩) (Below.refl _ w5).drew (Below.refl _ _) ?_ ?_)
            · refine ⟨?_, ?_, ?_, ?_, ?_, ?_, ?_, ?_, trivial⟩
              · intro a W hG hR hO hp
                have h7 := hO.slot 7 (by kernel_rfl)
                refine wp_yields (v := .pointer (some ⟨tb, 3, none⟩)) ?_ ⟨_, rfl, rfl, Below.refl _ _, hG⟩
                simp [slotOf] at h7
                simp [execOp, go_sem, h7]
              · intro a W hG hR hO hp
                have h47 : slotOf a 47 = .pointer (some ⟨tb, 3, none⟩) := hp.1
                have c0 := keep_cell g1 hG
                refine wp_yields (v := .slice vA j vc) ?_ ⟨_, rfl, rfl, Below.refl _ _, hG⟩
                simp [slotOf] at h47
                simp [execOp, go_sem, h47, c0]
              · intro a W hG hR hO hp
                have h3 := hO.slot 3 (by kernel_rfl)
                refine wp_yields (v := .pointer (some ⟨w.heap.size, 0, none⟩)) ?_ ⟨_, rfl, rfl, Below.refl _ _, hG⟩
                simp [slotOf] at h3
                simp [execOp, go_sem, h3]
              · intro a W hG hR hO hp
                have h49 : slotOf a 49 = .pointer (some ⟨w.heap.size, 0, none⟩) := hp.1
                have c0 := keep_cell g0 hG
                refine wp_yields (v := .func (.func 85) #[] #[]) ?_ ⟨_, rfl, rfl, Below.refl _ _, hG⟩
                simp [slotOf] at h49
                simp [execOp, go_sem, h49, c0]
              · intro a W hG hR hO hp
                have h11 := hO.slot 11 (by kernel_rfl)
                refine wp_yields (v := .pointer (some ⟨cb, 0, none⟩)) ?_ ⟨_, rfl, rfl, Below.refl _ _, hG⟩
                simp [slotOf] at h11
                simp [execOp, go_sem, h11]
              · intro a W hG hR hO hp
                have h51 : slotOf a 51 = .pointer (some ⟨cb, 0, none⟩) := hp.1
                have c0 := keep_cell g2 hG
                have c1 := keep_cell g3 hG
                refine wp_yields (v := .agg #[vi c.lo, vi c.hi]) ?_ ⟨_, rfl, rfl, Below.refl _ _, hG⟩
                simp [slotOf] at h51
                simp [execOp, go_sem, h51, c0, c1]
              · intro a W hG hR hO hp
                have h50 : slotOf a 50 = .func (.func 85) #[] #[] := hp.1
                have h52 : slotOf a 52 = .agg #[vi c.lo, vi c.hi] := hp.2.1
                refine wp_enters (f := 85) (args := #[.agg #[vi c.lo, vi c.hi]]) ?_ ((high_any _ _ _).mono ?_)
                · simp [slotOf] at h50 h52
                  simp [execOp, go_sem, h50, h52]
                · rintro e w' ⟨rfl, hb⟩
                  exact ⟨_, rfl, _, rfl, rfl, hb, below_next hG hb⟩
              · intro a W hG hR hO hp
                have h53 : slotOf a 53 = vi c.hi := hp.1
                refine wp_makes (v := .slice (some ⟨W.heap.size, 0, none⟩) 1 1) (W' := W.alloc (.cells #[vi c.hi] 3)) ?_ ⟨_, rfl, ⟨_, rfl, hG.size, Whole.made _ _ _⟩, (Below.refl _ _).alloc (Nat.le_refl _) _, hG.alloc hG.size _⟩
                simp [slotOf] at h53
                simp [execOp, go_sem, h53]
            · intro W hG hR
              rintro _ rfl _ rfl _ rfl _ rfl _ rfl _ rfl _ rfl _ ⟨nb, rfl, hnb, hW⟩
              change wpList _ _ _ _ _ _
              simp only [Act.put, List.setIfInBounds_toArray, List.set_cons_zero, List.set_cons_succ, List.drop_succ_cons, List.drop_zero]
              obtain ⟨hm5, ho5, hgr5⟩ := H5.out
              obtain ⟨hi0, hz0, hz1, hz2⟩ := HI.out
              have hm6 := hm5.later hG
              have ho6 := own_below ho5 hG
              have hgr6 := grown_below hgr5 hG
              refine wpList_append_lies _ rfl (.tmp 48) (.tmp 54) 43 rfl w0.heap.size 3 i0 (.int .i64 0) 1 8 Try.underlying43 hi0 hz0 hz1 hz2 rfl (by omega) _ j _ rfl ho6 ⟨nb, 0, none⟩ 1 1 [vi c.hi] rfl rfl (World.news_of_block hW) (by simp [Value.oneCell']) (by omega) (by unfold maxLen; omega) (by omega) hgr6.size W.heap.size rfl ?_
              intro gg cap w1 hown1 hgrow hat hlt1
              have hm7 := hm6.grown (own_more ho6 (hw0 ▸ HT.out.1.below.size)) hgrow
              have hgr7 := grown_row hgr6 hgrow (own_ge ho6)
              have ct := hm7.bt.at 3 rfl
              have ft := hm7.bt.free 3
              have HR := Lib.hid (And.intro (hm7.rains (.slice (some ⟨gg, 0, none⟩) (j + 1) cap)) (And.intro (own_set (i := 3) hown1 (own_ne hown1 hm7.bt (by decide)) (.slice (some ⟨gg, 0, none⟩) (j + 1) cap)) (grown_set (p := ⟨tb, 3, none⟩) hgr7 (.inl rfl) (.slice (some ⟨gg, 0, none⟩) (j + 1) cap))))
              clear hm7 hm6 ho6 hm5 ho5 hown1 hgrow hat hlt1 hW hG hR hi0 hz0 hz1 hz2 H5 g0 g1 g2 g3 hgr5 hgr6 hgr7
              go_wp2_with fail
              go_roundw
              case rel => exact ⟨j + 1, _, by omega, by go_num, HR.out.1, by rw [take_flat (fun c : Day => intL c.hi) days j c HK.out]; exact HR.out.2.1, HR.out.2.2⟩
              case measure => simp [intOf]; omega
          · have hjn : j = m := by omega
            subst hjn
            obtain ⟨ht1, ht2⟩ := HT.out
            have hsw : w.heap.size ≤ w0.heap.size := hw0 ▸ ht1.below.size
            have hlv : wr.ownsRow w.heap.size 3 1 v k ((l.take k).flatMap fun c => intL c.hi) := (hw0 ▸ ht2 : w0.ownsRow w.heap.size 3 1 v k ((l.take k).flatMap fun c => intL c.hi)).kept hgr (.inr (own_ne ht2 ht1.bt (by decide)))
            rw [List.take_of_length_le (by have := HN.out; omega)] at hlv
            rw [List.take_of_length_le (by have := HM.out; omega)] at hown
            obtain ⟨LA, lc, rfl⟩ := own_form hlv
            obtain ⟨RA, rc, rfl⟩ := own_form hown
            have t0 := hmid.bt.at 0 (v := vi shi) rfl
            have t1 := hmid.bt.at 1 (v := vi khi) rfl
            have t2 := hmid.bt.at 2 rfl
            have t3 := hmid.bt.at 3 rfl
            have r0 := hmid.b2.at 0 rfl
            have r1 := hmid.b2.at 1 rfl
            have r2 := hmid.b2.at 2 rfl
            have r3 := hmid.b2.at 3 rfl
            have q0 := hmid.b2.free 0
            have q1 := hmid.b2.free 1
            have q2 := hmid.b2.free 2
            have q3 := hmid.b2.free 3
            have nl := own_ne hlv hmid.b2 (by decide)
            have nr := own_ne hown hmid.b2 (by decide)
            have HE : Hid (ended w true ⟨l, slo, shi, klo, khi, melt⟩ days (.returned (truthV shi khi LA k lc RA j rc)) ((((wr.setCell ⟨w.heap.size + 1 + 1, 0, none⟩ (vi shi)).setCell ⟨w.heap.size + 1 + 1, 1, none⟩ (vi khi)).setCell ⟨w.heap.size + 1 + 1, 2, none⟩ (.slice LA k lc)).setCell ⟨w.heap.size + 1 + 1, 3, none⟩ (.slice RA j rc))) := by
              have ol := own_set (i := 3) (own_set (i := 2) (own_set (i := 1) (own_set (i := 0) hlv nl (vi shi)) nl (vi khi)) nl (.slice LA k lc)) nl (.slice RA j rc)
              have orr := own_set (i := 3) (own_set (i := 2) (own_set (i := 1) (own_set (i := 0) hown nr (vi shi)) nr (vi khi)) nr (.slice LA k lc)) nr (.slice RA j rc)
              have el : (l.flatMap fun c => intL c.hi) = (l.map fun c => endOf true c.lo c.hi).flatMap intL := by rw [List.flatMap_map]; rfl
              have er : (days.flatMap fun c => intL c.hi) = (days.map fun c => endOf true c.lo c.hi).flatMap intL := by rw [List.flatMap_map]; rfl
              rw [el] at ol
              rw [er] at orr
              have bb := hmid.below
              refine ⟨LA, lc, RA, rc, ?_, row_of_own (by omega) (fun _ => rfl) ol, row_of_own (by omega) (fun _ => rfl) orr, (((bb.setCell (by dsimp only; omega) _).setCell (by dsimp only; omega) _).setCell (by dsimp only; omega) _).setCell (by dsimp only; omega) _, fun a e => own_ge ol a.block (by subst e; rfl), fun a e => Nat.le_trans hsw (own_ge orr a.block (by subst e; rfl))⟩
              rw [← HN.out, ← HM.out]
              rfl
            clear hlv hown hmid nl nr hgr ht1 ht2 HT hw0 hsw
            go_wp2_with fail
            exact bodyPost_ret (v := truthV shi khi LA k lc RA j rc) (by simp [results, Try.results54, go_sem, r0, r1, r2, r3]) rfl HE.out

end Go.Proofs.Yteonkhohloabfaa
