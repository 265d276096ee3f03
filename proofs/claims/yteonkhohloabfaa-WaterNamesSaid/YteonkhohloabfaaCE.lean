/- The document's examples: the grounds that the closed statement makes, and their numbers. -/
import Derived.Test.YteonkhohloabfaaZB
import Derived.Test.YteonkhohloabfaaAM
import Derived.Test.YteonkhohloabfaaL6
namespace Go.Proofs.Yteonkhohloabfaa
open Go.RowKit

abbrev bankCs : Array Value := #[vi 100, vi 120, vi 400, vi 50, vi 200, vi 1, vi 0, vi 60, vi 60, vi 150, vi 0, vi 500, vi (-1), vi 10]
def bankedW (w : World) (e : Ending) (w' : World) : Prop := ∃ b, e = .returned (gndV (some ⟨b, 0, none⟩) 2 bankG) ∧ w.heap.size ≤ b ∧ Whole w' b 99 bankCs ∧ Below w.heap.size w w'
set_option maxRecDepth 100000 in
set_option maxHeartbeats 1000000 in
theorem bank_whole (w : World) : Calls Try.prog 48 #[] w (bankedW w) := by
  go_enter Try.func48, Try.ntmps48
  go_wp2_with fail
  have h0 := Whole.made w 38 #[.slice none 0 0, vi 0, vi 0, vi 0, vi 0, vi 0]
  have hB0 := (Below.refl w.heap.size w).alloc (Nat.le_refl _) (.cells #[.slice none 0 0, vi 0, vi 0, vi 0, vi 0, vi 0] 38)
  refine (span_any _ _ _).mono ?_
  rintro e w1 ⟨rfl, hb1⟩
  have h1 := h0.below hb1 h0.lt
  have hB1 := below_next hB0 hb1
  clear h0 hB0 hb1
  go_wp2_with fail
  refine (span_any _ _ _).mono ?_
  rintro e w2 ⟨rfl, hb2⟩
  have h2 := h1.below hb2 h1.lt
  have hB2 := below_next hB1 hb2
  clear h1 hB1 hb2
  go_wp2_with fail
  refine (span_any _ _ _).mono ?_
  rintro e w3 ⟨rfl, hb3⟩
  have h3 := h2.below hb3 h2.lt
  have hB3 := below_next hB2 hb3
  clear h2 hB2 hb3
  go_wp2_with fail
  refine (span_any _ _ _).mono ?_
  rintro e w4 ⟨rfl, hb4⟩
  have h4 := h3.below hb4 h3.lt
  have hB4 := below_next hB3 hb4
  clear h3 hB3 hb4
  have hl := h4.lt
  have f0 := h4.free 0
  have f1 := h4.free 1
  have f2 := h4.free 2
  have f3 := h4.free 3
  have f4 := h4.free 4
  have f5 := h4.free 5
  have c0 := h4.at 0 rfl
  have c1 := h4.at 1 rfl
  have c2 := h4.at 2 rfl
  have c3 := h4.at 3 rfl
  have c4 := h4.at 4 rfl
  have c5 := h4.at 5 rfl
  have H4 := Lib.hid (And.intro h4 hB4)
  clear h4 hB4
  go_wp2_with fail
  have hm := H4.out.1
  have k := (((((hm.set 0 (.slice (some ⟨w4.heap.size, 0, none⟩) 2 2)).set 1 (vi 20)).set 2 (vi 30)).set 3 (vi 500)).set 4 (vi 600)).set 5 (vi 4)
  have hsz : ((((((w4.setCell ⟨w.heap.size, 0, none⟩ (.slice (some ⟨w4.heap.size, 0, none⟩) 2 2)).setCell ⟨w.heap.size, 1, none⟩ (vi 20)).setCell ⟨w.heap.size, 2, none⟩ (vi 30)).setCell ⟨w.heap.size, 3, none⟩ (vi 500)).setCell ⟨w.heap.size, 4, none⟩ (vi 600)).setCell ⟨w.heap.size, 5, none⟩ (vi 4)).heap.size = w4.heap.size := by simp [World.setCell]
  have k2 := k.alloc (.cells #[vi 100, vi 120, vi 400, vi 50, vi 200, vi 1, vi 0, vi 60, vi 60, vi 150, vi 0, vi 500, vi (-1), vi 10] 99)
  have m := Whole.made ((((((w4.setCell ⟨w.heap.size, 0, none⟩ (.slice (some ⟨w4.heap.size, 0, none⟩) 2 2)).setCell ⟨w.heap.size, 1, none⟩ (vi 20)).setCell ⟨w.heap.size, 2, none⟩ (vi 30)).setCell ⟨w.heap.size, 3, none⟩ (vi 500)).setCell ⟨w.heap.size, 4, none⟩ (vi 600)).setCell ⟨w.heap.size, 5, none⟩ (vi 4)) 99 #[vi 100, vi 120, vi 400, vi 50, vi 200, vi 1, vi 0, vi 60, vi 60, vi 150, vi 0, vi 500, vi (-1), vi 10]
  rw [hsz] at m
  have e0 := k2.at 0 rfl
  have e1 := k2.at 1 rfl
  have e2 := k2.at 2 rfl
  have e3 := k2.at 3 rfl
  have e4 := k2.at 4 rfl
  have e5 := k2.at 5 rfl
  refine bodyPost_ret (v := gndV (some ⟨w4.heap.size, 0, none⟩) 2 bankG) (by simp [results, Try.results48, go_sem, e0, e1, e2, e3, e4, e5, bankG]) rfl ⟨w4.heap.size, rfl, H4.out.2.size, m, ?_⟩
  refine Below.alloc ?_ ?_ _
  · exact (((((H4.out.2.setCell (p := ⟨w.heap.size, 0, none⟩) (Nat.le_refl _) _).setCell (p := ⟨w.heap.size, 1, none⟩) (Nat.le_refl _) _).setCell (p := ⟨w.heap.size, 2, none⟩) (Nat.le_refl _) _).setCell (p := ⟨w.heap.size, 3, none⟩) (Nat.le_refl _) _).setCell (p := ⟨w.heap.size, 4, none⟩) (Nat.le_refl _) _).setCell (p := ⟨w.heap.size, 5, none⟩) (Nat.le_refl _) _
  · rw [hsz]; exact H4.out.2.size


/-- Of which all is known but the soak. -/
def sureG : Gnd := ⟨[⟨100, 100, 400, 50, 200, 1, 0⟩, ⟨60, 60, 150, 0, 500, -1, 10⟩], 20, 20, 500, 600, 4⟩
/-- A cell that leads to itself. -/
def oddG : Gnd := ⟨[⟨100, 120, 400, 50, 200, 1, 0⟩, ⟨60, 60, 150, 0, 500, 1, 10⟩], 20, 30, 500, 600, 4⟩
def warmD : List Day := [⟨10, 10, 5⟩]
def lowL : List Int := [100, 60]
def lowR : List Int := [10, 40, 0]
theorem low_run : runN bankG marchD 20 500 lowL lowR = 0 := by decide +kernel
theorem low_no : runN bankG marchD 20 499 lowL lowR = 9 := by decide +kernel
theorem low_lv : ((List.range 2).map fun i => (stR bankG marchD 20 500 lowL lowR 3).f i) = [102, 35] := by decide +kernel
theorem low_left : ((List.range 3).map fun j => (stR bankG marchD 20 500 lowL lowR (j + 1)).left) = [35, 82, 34] := by decide +kernel
theorem low_snow : (stR bankG marchD 20 500 lowL lowR 3).snow = 6 := by decide +kernel
theorem bank_asks : askedN bankG marchD 1 60 = 0 ∧ askedN bankG marchD 1 35 = 0 ∧ askedN bankG marchD 1 58 = 0 ∧ askedN bankG marchD 2 0 = 2 := by decide +kernel
theorem reach60 : firstE true bankG marchD 1 60 = 1 ∧ firstE false bankG marchD 1 60 = -1 := by decide +kernel
theorem reach35 : firstE true bankG marchD 1 35 = 0 ∧ firstE false bankG marchD 1 35 = 0 := by decide +kernel
theorem least60 {n : Int} (h : Halved (keepsB bankG marchD 1 60) 0 100000 n (n - 1)) : n = 28 :=
  halved_is (fun _ _ a b c d => keepsB_mono bank_fault (by decide) 60 a b c d) h (by omega) (by omega) (by decide +kernel) (by decide +kernel)
theorem least58 {n : Int} (h : Halved (keepsB bankG marchD 1 58) 0 100000 n (n - 1)) : 100000 < n := by
  obtain ⟨_, _, h3, _⟩ := halved_ok (fun _ _ a b c d => keepsB_mono bank_fault (by decide) 58 a b c d) h
  have : keepsB bankG marchD 1 58 100000 = false := by decide +kernel
  rcases Int.lt_or_le 100000 n with h | h
  · exact h
  · rw [h3.1 h] at this; cases this
theorem ln_state : lnErr bankG marchD [] = 8 := by decide +kernel
theorem ln_106 : lnErr sureG warmD [⟨0, 0, 106, 106⟩] = 0 := by decide +kernel
theorem ln_109 : lnErr sureG warmD [⟨0, 0, 109, 120⟩] = 0 := by decide +kernel
theorem ln_day : lnErr sureG warmD [⟨0, 1, 0, 0⟩] = 2 := by decide +kernel
theorem ln_many : lnErr sureG warmD (List.replicate 31 ⟨0, 0, 0, 0⟩) = 3 := by decide +kernel
theorem many_fault : faultN bankG (List.replicate 31 ⟨0, 0, 0⟩) = 3 := by decide +kernel
theorem odd_fault : faultN oddG [] = 1 := by decide +kernel
theorem no_ground : errB (gndB ⟨[], 0, 0, 0, 0, 0⟩) = 1 := by decide +kernel
theorem learnt_106 {v : Value} (h : learnOut sureG warmD [⟨0, 0, 106, 106⟩] v) : v = .tuple #[.agg #[vi 534, vi 566], vi 0] := by
  obtain ⟨n, m, hn, hm, rfl⟩ := h
  have hs : ∀ s : Int, 500 ≤ s → s ≤ 600 → ([⟨0, 0, 106, 106⟩] : List Rdg).all (agB sureG warmD s) = inB s n (m - 1) := fun s h0 h1 => learn_says (g := sureG) (days := warmD) (by decide +kernel) (by decide +kernel) hn hm h0 h1
  have a := hs 533 (by omega) (by omega)
  have b := hs 534 (by omega) (by omega)
  have c := hs 566 (by omega) (by omega)
  have d := hs 567 (by omega) (by omega)
  rw [show ([⟨0, 0, 106, 106⟩] : List Rdg).all (agB sureG warmD 533) = false by decide +kernel] at a
  rw [show ([⟨0, 0, 106, 106⟩] : List Rdg).all (agB sureG warmD 534) = true by decide +kernel] at b
  rw [show ([⟨0, 0, 106, 106⟩] : List Rdg).all (agB sureG warmD 566) = true by decide +kernel] at c
  rw [show ([⟨0, 0, 106, 106⟩] : List Rdg).all (agB sureG warmD 567) = false by decide +kernel] at d
  have b := b.symm
  have c := c.symm
  simp only [inB, Bool.and_eq_true, decide_eq_true_eq] at b c
  have a := a.symm
  have d := d.symm
  rw [Bool.eq_false_iff] at a d
  simp only [inB, ne_eq, Bool.and_eq_true, decide_eq_true_eq] at a d
  have e1 : n = 534 := by omega
  have e2 : m - 1 = 566 := by omega
  rw [if_neg (by omega), e1, e2]
theorem learnt_109 {v : Value} (h : learnOut sureG warmD [⟨0, 0, 109, 120⟩] v) : v = .tuple #[.agg #[vi 0, vi 0], vi 7] := by
  obtain ⟨n, m, hn, hm, rfl⟩ := h
  have hs : ∀ s : Int, 500 ≤ s → s ≤ 600 → ([⟨0, 0, 109, 120⟩] : List Rdg).all (agB sureG warmD s) = inB s n (m - 1) := fun s h0 h1 => learn_says (g := sureG) (days := warmD) (by decide +kernel) (by decide +kernel) hn hm h0 h1
  have all : ∀ k : Fin 101, ([⟨0, 0, 109, 120⟩] : List Rdg).all (agB sureG warmD (500 + (k.val : Int))) = false := by decide +kernel
  have l1 : (500 : Int) ≤ n := hn.le1
  have l2 : m - 1 ≤ (600 : Int) := hm.le3
  rcases Int.lt_or_le (m - 1) n with h | h
  · rw [if_pos h]
  · exfalso
    have h1 := hs n l1 (by omega)
    have h2 := all ⟨(n - 500).toNat, by omega⟩
    rw [show (500 : Int) + ((⟨(n - 500).toNat, by omega⟩ : Fin 101).val : Int) = n by show 500 + (((n - 500).toNat : Nat) : Int) = n; omega, h1] at h2
    rw [Bool.eq_false_iff] at h2
    exact h2 (by simp only [inB, Bool.and_eq_true, decide_eq_true_eq]; omega)
theorem vT2_rowH {N : Nat} {sl : Nat → Int} {Q : Option Addr} {cq : Nat} {W : World} (h : vT2 N sl (.slice Q N cq) W) : Row intL 1 W W.heap.size Q ((List.range N).map sl) := by
  obtain ⟨Q', cq', base, e, h2⟩ := h
  injection e with e1 _ e2
  subst e1
  subst e2
  refine row_of_own (by omega) (fun _ => rfl) (base := base) (e := 3) (cap := cq) (n := N) ?_
  rw [ints_flat, List.map_map]
  exact h2
def lowF (j i : Nat) : Int := (stR bankG marchD 20 500 lowL lowR (j + 1)).f i
def lowG (j : Nat) : Int := (stR bankG marchD 20 500 lowL lowR (j + 1)).left
/-- What Run leaves of the example. -/
def vNmL (v : Value) (W : World) : Prop := ∃ v1 v2, v = .tuple #[v1, v2, vi 6, vi 0] ∧ vT1 2 3 lowF v1 W ∧ vT2 3 lowG v2 W
theorem vNmL_st : ∀ v W W', vNmL v W → newer W W' → vNmL v W' := fun _ _ _ ⟨v1, v2, h1, h2, h3⟩ hb => ⟨v1, v2, h1, vT1_st _ _ _ h2 hb, vT2_st _ _ _ h3 hb⟩
theorem low_ok (A : Option Addr) (ap : Nat) (D : Option Addr) (dp : Nat) (L : Option Addr) (lp : Nat) (R : Option Addr) (rp : Nat) (w : World) (hc : Row cellL 7 w w.heap.size A bankG.cells) (hd : Row dayL 3 w w.heap.size D marchD) (hL : Row intL 1 w w.heap.size L lowL) (hR : Row intL 1 w w.heap.size R lowR) :
    Calls Try.prog 32 #[gndV A ap bankG, .slice D 3 dp, .agg #[vi 20, vi 500, .slice L 2 lp, .slice R 3 rp]] w fun e w' => (∃ v, e = .returned v ∧ vNmL v w') ∧ newer w w' := by
  refine (run_yes bankG A ap marchD D dp 20 500 lowL L lp lowR R rp w (by decide) (by decide) (by decide) (by decide) hc hd hL hR low_run).mono ?_
  rintro e w' ⟨⟨v, rfl, v1, v2, rfl, h1, h2⟩, hb⟩
  refine ⟨⟨_, rfl, v1, v2, ?_, h1, h2⟩, hb⟩
  rw [show (stR bankG marchD 20 500 lowL lowR marchD.length).snow = 6 from low_snow]
/-- The truth of the example, as the closed statement holds it. -/
structure NmA (w : World) (so : Int) (W : World) : Prop where
  below : Below w.heap.size w W
  r1 : Whole W w.heap.size 3 #[vi 100, vi 60]
  r2 : Whole W (w.heap.size + 1) 3 #[vi 10, vi 40, vi 0]
  tb : Whole W (w.heap.size + 1 + 1) 63 #[vi 20, vi so, .slice (some ⟨w.heap.size, 0, none⟩) 2 2, .slice (some ⟨w.heap.size + 1, 0, none⟩) 3 3]
theorem NmA.next {w W W' : World} {so : Int} (h : NmA w so W) (hb : newer W W') : NmA w so W' := ⟨below_next h.below hb, h.r1.below hb h.r1.lt, h.r2.below hb h.r2.lt, h.tb.below hb h.tb.lt⟩
theorem NmA.made (w : World) : NmA w 500 (((w.alloc (.cells #[vi 100, vi 60] 3)).alloc (.cells #[vi 10, vi 40, vi 0] 3)).alloc (.cells #[vi 20, vi 500, .slice (some ⟨w.heap.size, 0, none⟩) 2 2, .slice (some ⟨w.heap.size + 1, 0, none⟩) 3 3] 63)) := by
  have a := Whole.made (w.alloc (.cells #[vi 100, vi 60] 3)) 3 #[vi 10, vi 40, vi 0]
  have b := Whole.made ((w.alloc (.cells #[vi 100, vi 60] 3)).alloc (.cells #[vi 10, vi 40, vi 0] 3)) 63 #[vi 20, vi 500, .slice (some ⟨w.heap.size, 0, none⟩) 2 2, .slice (some ⟨w.heap.size + 1, 0, none⟩) 3 3]
  simp only [World.size_alloc] at a b
  exact ⟨(((Below.refl _ _).alloc (Nat.le_refl _) _).alloc (by simp) _).alloc (by simp; omega) _, ((Whole.made w 3 _).alloc _).alloc _, a.alloc _, b⟩
theorem NmA.rowL {w W : World} {so : Int} (h : NmA w so W) : Row intL 1 W W.heap.size (some ⟨w.heap.size, 0, none⟩) lowL := row_of_whole (enc := intL) (s := 1) (fun _ => rfl) h.r1 rfl
theorem NmA.rowR {w W : World} {so : Int} (h : NmA w so W) : Row intL 1 W W.heap.size (some ⟨w.heap.size + 1, 0, none⟩) lowR := row_of_whole (enc := intL) (s := 1) (fun _ => rfl) h.r2 rfl
theorem NmA.soak {w W : World} {so : Int} (h : NmA w so W) (u : Int) : NmA w u (W.setCell ⟨w.heap.size + 1 + 1, 1, none⟩ (vi u)) :=
  ⟨h.below.setCell (p := ⟨w.heap.size + 1 + 1, 1, none⟩) (by dsimp only; omega) _, h.r1.far (p := ⟨w.heap.size + 1 + 1, 1, none⟩) (by dsimp only; omega) _, h.r2.far (p := ⟨w.heap.size + 1 + 1, 1, none⟩) (by dsimp only; omega) _, h.tb.set 1 _⟩
abbrev sureCs : Array Value := #[vi 100, vi 100, vi 400, vi 50, vi 200, vi 1, vi 0, vi 60, vi 60, vi 150, vi 0, vi 500, vi (-1), vi 10]
abbrev oddCs : Array Value := #[vi 100, vi 120, vi 400, vi 50, vi 200, vi 1, vi 0, vi 60, vi 60, vi 150, vi 0, vi 500, vi 1, vi 10]
/-- A ground in a box of its own. -/
structure NmB (s b : Nat) (x y : Int) (cs : Array Value) (W : World) : Prop where
  sb : Whole W s 38 #[.slice (some ⟨b, 0, none⟩) 2 2, vi x, vi y, vi 500, vi 600, vi 4]
  cb : Whole W b 99 cs
theorem NmB.next {s b : Nat} {x y : Int} {cs : Array Value} {W W' : World} (h : NmB s b x y cs W) (hb : newer W W') : NmB s b x y cs W' := ⟨h.sb.below hb h.sb.lt, h.cb.below hb h.cb.lt⟩
theorem NmB.sure {s b : Nat} {W : World} (h : NmB s b 20 20 sureCs W) : Row cellL 7 W W.heap.size (some ⟨b, 0, none⟩) sureG.cells := row_of_whole (enc := cellL) (s := 7) (fun _ => rfl) h.cb rfl
theorem NmB.odd {s b : Nat} {W : World} (h : NmB s b 20 30 oddCs W) : Row cellL 7 W W.heap.size (some ⟨b, 0, none⟩) oddG.cells := row_of_whole (enc := cellL) (s := 7) (fun _ => rfl) h.cb rfl
theorem Try.info103e : (Try.prog.info? 103).map (fun i => (i.zero, i.size, i.bytes)) = some (some (.agg #[.int .i64 0, .int .i64 0, .int .i64 0, .int .i64 0]), 4, 32) := by kernel_rfl
theorem Try.info101e : (Try.prog.info? 101).map (fun i => (i.zero, i.size, i.bytes)) = some (some (.agg #[.int .i64 0, .int .i64 0, .int .i64 0]), 3, 24) := by kernel_rfl
theorem make_rdgs (W : World) : (Instr.makeSlice 84 (.int .i64 31) (.int .i64 31)).run Try.prog W = .ok (.slice (some ⟨W.heap.size, 0, none⟩) 31 31) (W.alloc (.cells (Array.replicate 124 (vi 0)) 103)) := by
  obtain ⟨i0, hi0, hz0, hz1, hz2⟩ := info_parts Try.info103e
  have h := run_make (P := Try.prog) W 84 103 i0 _ Try.underlying84 hi0 hz0 .i64 .i64 31 31 (by omega) (by omega) (by rw [hz2]; omega) (by omega)
  rw [hz1] at h
  rw [show madeCells (Value.agg #[.int .i64 0, .int .i64 0, .int .i64 0, .int .i64 0]).cells ((31 : Int).toNat * 4) = Array.replicate 124 (vi 0) by kernel_rfl] at h
  exact h
theorem make_days (W : World) : (Instr.makeSlice 40 (.int .i64 31) (.int .i64 31)).run Try.prog W = .ok (.slice (some ⟨W.heap.size, 0, none⟩) 31 31) (W.alloc (.cells (Array.replicate 93 (vi 0)) 101)) := by
  obtain ⟨i0, hi0, hz0, hz1, hz2⟩ := info_parts Try.info101e
  have h := run_make (P := Try.prog) W 40 101 i0 _ Try.underlying40 hi0 hz0 .i64 .i64 31 31 (by omega) (by omega) (by rw [hz2]; omega) (by omega)
  rw [hz1] at h
  rw [show madeCells (Value.agg #[.int .i64 0, .int .i64 0, .int .i64 0]).cells ((31 : Int).toNat * 3) = Array.replicate 93 (vi 0) by kernel_rfl] at h
  exact h
theorem wp_storesE {P : Program} {o : Oper} {a : Act} {W W' : World} {K : Act → World → Prop} {Q : Exit → Act → World → Prop} (h : (execOp a.eval o).run P W = .ok .skip W') (hk : K (a.put o.dst undef) W') : o.wp P a W K Q := by
  unfold Oper.wp
  rw [h]
  exact hk
end Go.Proofs.Yteonkhohloabfaa
