/- The survey of the chapter. -/
import Derived.Test.YtpmafnifgegfbaaAG
namespace Go.Proofs.Ytpmafnifgegfbaa
open Go.RowKit Go.Shelf Go.Deep

/-- The survey of the chapter. -/
def valS : Sd := ⟨[⟨⟨0, 6⟩, ⟨0, 6⟩⟩, ⟨⟨0, 6⟩, ⟨0, 6⟩⟩], 1, [⟨0, 1, 0, 4, 0, 0, 0⟩, ⟨1, 1, 1, 0, 1, 0, 0⟩], 10, [1, 11]⟩
theorem val_err : errN valS = 0 := by decide +kernel
theorem val_ok : okS valS (freeL valS) = true := by decide +kernel
theorem val_known : knL valS = [⟨⟨5, 5⟩, ⟨3, 6⟩⟩, ⟨⟨4, 6⟩, ⟨4, 6⟩⟩] := by kernel_rfl
theorem val_sd : SdOk valS := err_iff.1 val_err
theorem val_turns : allT valS = [[some 1, none]] := by
  show outT valS 2 0 [none, none] = _
  rw [outT, if_pos (show okS valS [none, none] = true from val_ok)]
  have h := out_cut (s := valS) (r := 1) (tool := 0) (ks := [none, none]) (t := ⟨0, 1, 0, 4, 0, 0, 0⟩) (lo := 5) (hi := 5) (by decide) (val_sd.toolIn) rfl rfl rfl (by decide) (by decide) (by decide +kernel) (by decide +kernel) (by decide +kernel) (by decide +kernel)
  show (if (4 : Int) = 0 then _ else kAll.flatMap fun k => outT valS 1 1 ([none, none].set 0 (some k))) = _
  rw [if_neg (by decide), h]
  kernel_rfl
theorem val_list : (allT valS).map (turL valS.tools) = [[1]] := by rw [val_turns]; rfl
/-- A new block is a row of one's own. -/
theorem own_of_wholeN {w : World} {base g : Nat} {t : TypeId} {cs : Array Value} {size n : Nat} (h : Whole w g t cs) (hb : base ≤ g) (hn : cs.size = n * size) (hm : n ≤ maxLen) : w.ownsRow base t size (.slice (some ⟨g, 0, none⟩) n n) n cs.toList :=
  ⟨by simpa using hn, .inr ⟨g, n, cs, rfl, hb, h, Nat.le_refl _, hm, hn, by rw [← hn]; exact List.take_length⟩⟩
set_option maxRecDepth 100000 in
set_option maxHeartbeats 2000000 in
theorem valley_any (w : World) : Calls Try.prog 57 #[] w fun e w' => ∃ y' : Sm, e = .returned (smV y') ∧ y'.s = valS ∧ SvOwn y' w.heap.size w' ∧ newer w w' := by
  go_enter Try.func57, Try.ntmps57
  go_wp2_with fail
  obtain ⟨c0, hc0⟩ : ∃ c : Array Value, c = #[.slice (some ⟨w.heap.size + 1 + 1, 0, none⟩) 2 2, vi 1, .slice (some ⟨w.heap.size + 1 + 1 + 1, 0, none⟩) 2 2, vi 10, .slice (some ⟨w.heap.size + 1 + 1 + 1 + 1, 0, none⟩) 2 2] := ⟨_, rfl⟩
  obtain ⟨w0, hw0⟩ : ∃ W, W = w.alloc (.cells c0 40) := ⟨_, rfl⟩
  obtain ⟨w1, hw1⟩ : ∃ W, W = w0.alloc (.cells #[vi 0, vi 6, vi 0, vi 6] 56) := ⟨_, rfl⟩
  obtain ⟨w2, hw2⟩ : ∃ W, W = w1.alloc (.cells #[vi 0, vi 6, vi 0, vi 6, vi 0, vi 6, vi 0, vi 6] 56) := ⟨_, rfl⟩
  obtain ⟨w3, hw3⟩ : ∃ W, W = w2.alloc (.cells #[vi 0, vi 1, vi 0, vi 4, vi 0, vi 0, vi 0, vi 1, vi 1, vi 1, vi 0, vi 1, vi 0, vi 0] 112) := ⟨_, rfl⟩
  obtain ⟨w4, hw4⟩ : ∃ W, W = w3.alloc (.cells #[vi 1, vi 11] 3) := ⟨_, rfl⟩
  have s0 : w0.heap.size = w.heap.size + 1 := by rw [hw0, World.size_alloc]
  have s1 : w1.heap.size = w.heap.size + 1 + 1 := by rw [hw1, World.size_alloc, s0]
  have s2 : w2.heap.size = w.heap.size + 1 + 1 + 1 := by rw [hw2, World.size_alloc, s1]
  have s3 : w3.heap.size = w.heap.size + 1 + 1 + 1 + 1 := by rw [hw3, World.size_alloc, s2]
  have n0 : newer w w0 := by rw [hw0]; exact newer_allocH _ _
  have n1 : newer w0 w1 := by rw [hw1]; exact newer_allocH _ _
  have n2 : newer w1 w2 := by rw [hw2]; exact newer_allocH _ _
  have n3 : newer w2 w3 := by rw [hw3]; exact newer_allocH _ _
  have n4 : newer w3 w4 := by rw [hw4]; exact newer_allocH _ _
  have b0 : Whole w0 w.heap.size 40 c0 := by rw [hw0]; exact Whole.made _ _ _
  have b2 : Whole w2 (w.heap.size + 1 + 1) 56 #[vi 0, vi 6, vi 0, vi 6, vi 0, vi 6, vi 0, vi 6] := by rw [← s1, hw2]; exact Whole.made _ _ _
  have b3 : Whole w3 (w.heap.size + 1 + 1 + 1) 112 #[vi 0, vi 1, vi 0, vi 4, vi 0, vi 0, vi 0, vi 1, vi 1, vi 1, vi 0, vi 1, vi 0, vi 0] := by rw [← s2, hw3]; exact Whole.made _ _ _
  have b4 : Whole w4 (w.heap.size + 1 + 1 + 1 + 1) 3 #[vi 1, vi 11] := by rw [← s3, hw4]; exact Whole.made _ _ _
  have n14 := newer_trans n1 (newer_trans n2 (newer_trans n3 n4))
  have a0 := b0.below n14 b0.lt
  have a2 := b2.below (newer_trans n3 n4) b2.lt
  have a3 := b3.below n4 b3.lt
  have hn := newer_trans n0 n14
  rw [← hc0, ← hw0, ← hw1, ← hw2, ← hw3, ← hw4]
  rw [hc0] at a0
  have e0 := a0.at 0 (v := .slice (some ⟨w.heap.size + 1 + 1, 0, none⟩) 2 2) rfl
  have e1 := a0.at 1 (v := vi 1) rfl
  have e2 := a0.at 2 (v := .slice (some ⟨w.heap.size + 1 + 1 + 1, 0, none⟩) 2 2) rfl
  have e3 := a0.at 3 (v := vi 10) rfl
  have e4 := a0.at 4 (v := .slice (some ⟨w.heap.size + 1 + 1 + 1 + 1, 0, none⟩) 2 2) rfl
  have ho : SvOwn ⟨valS, some ⟨w.heap.size + 1 + 1, 0, none⟩, 2, some ⟨w.heap.size + 1 + 1 + 1, 0, none⟩, 2, some ⟨w.heap.size + 1 + 1 + 1 + 1, 0, none⟩, 2⟩ w.heap.size w4 :=
    ⟨own_of_wholeN (size := 4) (n := 2) a2 (by omega) rfl (by decide), own_of_wholeN (size := 7) (n := 2) a3 (by omega) rfl (by decide), own_of_wholeN (size := 1) (n := 2) b4 (by omega) rfl (by decide)⟩
  clear hc0 hw0 hw1 hw2 hw3 hw4 s0 s1 s2 s3 n0 n1 n2 n3 n4 b0 b2 b3 b4 n14 a0 a2 a3
  exact bodyPost_ret (v := .agg #[.slice (some ⟨w.heap.size + 1 + 1, 0, none⟩) 2 2, vi 1, .slice (some ⟨w.heap.size + 1 + 1 + 1, 0, none⟩) 2 2, vi 10, .slice (some ⟨w.heap.size + 1 + 1 + 1 + 1, 0, none⟩) 2 2]) (by simp [results, Try.results57, go_sem, e0, e1, e2, e3, e4]) rfl ⟨⟨valS, some ⟨w.heap.size + 1 + 1, 0, none⟩, 2, some ⟨w.heap.size + 1 + 1 + 1, 0, none⟩, 2, some ⟨w.heap.size + 1 + 1 + 1 + 1, 0, none⟩, 2⟩, rfl, rfl, ho, hn⟩
set_option maxRecDepth 100000 in
set_option maxHeartbeats 4000000 in
/-- What the chapter shows. -/
theorem awake_any (w : World) : Calls Try.prog 31 #[] w fun e w' => e = .returned (.bool true) ∧ newer w w' := by
  go_enter Try.func31, Try.ntmps31
  go_wp2_with fail
  refine (valley_any w).mono ?_
  rintro e w1 ⟨y, rfl, hs, hy, hn1⟩
  have HY := Lib.hid (And.intro hs (And.intro hy hn1))
  have HFE : Hid (SmFew y) := Lib.hid ⟨by rw [hs]; decide, by rw [hs]; decide, by rw [hs]; decide⟩
  have HL := Lib.hid (learn_ok y w1 hy.ok HFE.out (by rw [hs]; exact val_err) (by rw [hs]; exact val_ok))
  clear hs hy hn1
  go_wp2_with fail
  refine (HL.out).mono ?_
  rintro e w2 ⟨B, d, rfl, ho, hn2⟩
  rw [HY.out.1, val_known] at ho
  rw [HY.out.1, val_known]
  have HK := Lib.hid (And.intro ho (newer_trans HY.out.2.2 hn2))
  clear ho hn2 HL HFE HY
  go_wp2_with fail
  refine (valley_any w2).mono ?_
  rintro e w3 ⟨z, rfl, hs, hz, hn3⟩
  have HZ := Lib.hid (And.intro hs (And.intro hz hn3))
  have HFE : Hid (SmFew z) := Lib.hid ⟨by rw [hs]; decide, by rw [hs]; decide, by rw [hs]; decide⟩
  have HT := Lib.hid (turns_ok z w3 hz.ok HFE.out (by rw [hs]; exact val_err) (by rw [hs, val_turns]; rfl))
  clear hs hz hn3
  go_wp2_with fail
  refine (HT.out).mono ?_
  rintro e w4 ⟨xs, ls, A1, c1, A2, c2, rfl, hn4, hf⟩
  have hx := hf.xl
  rw [HZ.out.1, val_turns] at hx
  have hx1 : xs.map (·.l) = [[1]] := hx
  have hln : xs.length = 1 := by have h := congrArg List.length hx1; rw [List.length_map] at h; exact h
  have HX := Lib.hid (And.intro hx1 (And.intro hln hf.lists))
  have hn34 := newer_trans HZ.out.2.2 hn4
  have ho4 := own_below HK.out.1 hn34
  obtain ⟨g, rfl, hg⟩ := own_some ho4 (by decide)
  have hrw := row_of_own (enc := spL) (size := 4) (by decide) (fun _ => rfl) ho4
  obtain ⟨b1, o1, e1, _, s0, s1, s2, s3⟩ := row4 (k := 0) hrw rfl
  injection e1 with e1
  injection e1 with eb eo
  subst eb
  subst eo
  obtain ⟨b1, o1, e1, _, t0, t1, t2, t3⟩ := row4 (k := 1) hrw rfl
  injection e1 with e1
  injection e1 with eb eo
  subst eb
  subst eo
  have HN := Lib.hid (newer_trans HK.out.2 hn34)
  rw [hln]
  clear hx hx1 hln hn34 ho4 hrw hf hn4 hg HK HZ HT HFE
  go_wp2_with fail
  have n1 := newer_allocH w4 (.cells #[vi 1] 3)
  have n2 := newer_allocH (w4.alloc (.cells #[vi 1] 3)) (.cells #[.slice (some ⟨w4.heap.size, 0, none⟩) 1 1] 24)
  have hw1 := (Whole.made w4 3 #[vi 1]).below n2 (by rw [World.size_alloc]; omega)
  have hw2 := Whole.made (w4.alloc (.cells #[vi 1] 3)) 24 #[.slice (some ⟨w4.heap.size, 0, none⟩) 1 1]
  rw [World.size_alloc] at hw2
  have hz : LlOk [({ l := [1], a := some ⟨w4.heap.size, 0, none⟩, c := 1 } : Ln)] (some ⟨w4.heap.size + 1, 0, none⟩) ((w4.alloc (.cells #[vi 1] 3)).alloc (.cells #[.slice (some ⟨w4.heap.size, 0, none⟩) 1 1] 24)) :=
    ⟨row_of_whole (enc := lnL) (s := 1) (fun _ => rfl) hw2 rfl, fun x hx => by
      obtain rfl := List.mem_singleton.1 hx
      exact row_of_whole (enc := intL) (s := 1) (fun _ => rfl) hw1 rfl⟩
  have hlen : ∀ x ∈ xs, x.l.length ≤ 1000 := fun x hx => by
    have h : x.l ∈ xs.map (·.l) := List.mem_map.2 ⟨x, hx, rfl⟩
    rw [HX.out.1] at h
    rw [List.mem_singleton.1 h]
    decide
  have HT := turns_any xs [({ l := [1], a := some ⟨w4.heap.size, 0, none⟩, c := 1 } : Ln)] A1 (some ⟨w4.heap.size + 1, 0, none⟩) c1 1 _ (by rw [HX.out.2.1]; decide) hlen (fun x hx => by obtain rfl := List.mem_singleton.1 hx; show 1 ≤ 1000; decide) (HX.out.2.2.next (newer_trans n1 n2)) hz
  rw [HX.out.1, HX.out.2.1] at HT
  refine HT.mono ?_
  rintro e w5 ⟨rfl, hn5⟩
  have HN5 := Lib.hid (newer_trans HN.out (newer_trans (newer_trans n1 n2) hn5))
  have hd : decide ([[(1 : Int)]] = [({ l := [1], a := some ⟨w4.heap.size, 0, none⟩, c := 1 } : Ln)].map (·.l)) = true := decide_eq_true rfl
  rw [hd]
  clear n1 n2 hw1 hw2 hz hlen HT hn5 hd s0 s1 s2 s3 t0 t1 t2 t3
  go_wp2_with fail
  go_ret
  exact ⟨rfl, HN5.out⟩

end Go.Proofs.Ytpmafnifgegfbaa
