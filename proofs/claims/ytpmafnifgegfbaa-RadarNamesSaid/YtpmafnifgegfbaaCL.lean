/- The examples of the chapter: what the surveys say. -/
import Derived.Test.YtpmafnifgegfbaaCE
import Derived.Test.YtpmafnifgegfbaaPG
import Derived.Test.YtpmafnifgegfbaaAH
import Derived.Test.YtpmafnifgegfbaaAC0
import Derived.Test.YtpmafnifgegfbaaAL2
namespace Go.Proofs.Ytpmafnifgegfbaa
open Go.RowKit Go.Shelf Go.Deep

def nS1 : Sd := { valS with reads := [1, 20] }
def nS2 : Sd := { valS with strain := 6 }
def nS3 : Sd := { valS with spots := [⟨⟨0, 2⟩, ⟨0, 6⟩⟩, ⟨⟨0, 6⟩, ⟨0, 6⟩⟩], reads := [3, 20] }
def nS4 : Sd := { valS with spots := List.replicate 7 ⟨⟨0, 0⟩, ⟨0, 0⟩⟩ }
def nS5 : Sd := { valS with reads := [1] }
def nS0 : Sd := ⟨[], 0, [], 0, []⟩
/-- The tool that may be off by much. -/
def nX : Tl := ⟨0, 1, 0, 4, 0, 0, 0⟩
def nT : Tl := ⟨0, 1, 0, 2, 50, 0, 0⟩
def nL1 : Sd := { valS with tools := valS.tools ++ [nT], reads := valS.reads ++ [0] }
def nL2 : Sd := { valS with tools := valS.tools ++ [nT] ++ [nT], reads := valS.reads ++ [0] ++ [0] }
theorem s1_err : errN nS1 = 0 := by decide +kernel
theorem s1_bad : okS nS1 (freeL nS1) = false := by decide +kernel
theorem s1_blame : blameK nS1 2 = [1] := by decide +kernel
theorem s1_blameE : blameE nS1 = 0 := by
  unfold blameE
  rw [if_pos s1_err, if_neg (by rw [s1_bad]; decide), show nS1.tools.length = 2 from rfl, s1_blame]
  rfl
theorem s1_blameL : blameL nS1 = [1] := by unfold blameL; rw [if_pos s1_blameE]; exact s1_blame
theorem s1_learn : learnE nS1 = 9 := by unfold learnE; rw [if_pos s1_err, if_neg (by rw [s1_bad]; decide)]
theorem s1_learnL : learnL nS1 = [] := by unfold learnL; rw [if_neg (by rw [s1_learn]; decide)]
theorem s2_err : errN nS2 = 0 := by decide +kernel
theorem s2_ok : okS nS2 (freeL nS2) = true := by decide +kernel
theorem s2_sd : SdOk nS2 := err_iff.1 s2_err
theorem s2_turns : allT nS2 = [[some 0, none], [some 1, none]] := by
  show outT nS2 2 0 [none, none] = _
  rw [outT, if_pos (show okS nS2 [none, none] = true from s2_ok)]
  have h := out_cut (s := nS2) (r := 1) (tool := 0) (ks := [none, none]) (t := ⟨0, 1, 0, 4, 0, 0, 0⟩) (lo := 1) (hi := 5) (by decide) (s2_sd.toolIn) rfl rfl rfl (by decide) (by decide) (by decide +kernel) (by decide +kernel) (by decide +kernel) (by decide +kernel)
  show (if (4 : Int) = 0 then _ else kAll.flatMap fun k => outT nS2 1 1 ([none, none].set 0 (some k))) = _
  rw [if_neg (by decide), h]
  kernel_rfl
theorem s2_pos : posE (allT nS2) = 0 := by rw [s2_turns]; rfl
theorem s2_turnE : turnE nS2 = 0 := by unfold turnE; rw [if_pos s2_err, s2_pos]
theorem s2_turnL : turnLs nS2 = [[0], [1]] := by unfold turnLs; rw [if_pos s2_turnE, s2_turns]; rfl
def nB : Tl := ⟨0, 0, 1, 0, 0, 0, 0⟩
def nA : Tl := ⟨0, 1, 0, 0, 0, 0, 0⟩
theorem s2_a0 : aliveS nS2 [some 0, none] 0 = [(1, 0), (1, 1), (1, 2), (1, 3), (1, 4), (1, 5), (1, 6)] := by kernel_rfl
theorem s2_a1 : aliveS nS2 [some 1, none] 0 = [(5, 0), (5, 1), (5, 2), (5, 3), (5, 4), (5, 5), (5, 6)] := by kernel_rfl
theorem s2_tB : TlOk nS2.spots.length nS2.day nB := tlB_iff.1 (by decide)
theorem s2_tA : TlOk nS2.spots.length nS2.day nA := tlB_iff.1 (by decide)
theorem s2_wB : worstS nS2 nB = 2 := by
  refine (worst_top s2_sd s2_tB).uniq ?_ (cnt_nat _ _ _)
  refine ⟨fun r => ?_, .inr ⟨0, ?_⟩⟩
  · have h := (cnt_bd nS2 nB (allT nS2) r).2
    rw [s2_turns] at h ⊢
    exact h
  · rw [s2_turns]
    decide +kernel
theorem s2_wA : worstS nS2 nA = 1 := by
  refine (worst_top s2_sd s2_tA).uniq ?_ (cnt_nat _ _ _)
  refine ⟨fun r => ?_, .inr ⟨1, ?_⟩⟩
  · have h0 : stakeB nS2 nA r [some 0, none] = decide (r = 1) := by
      rw [Bool.eq_iff_iff, stake_in, show nA.spot.toNat = 0 from rfl, s2_a0, decide_eq_true_eq]
      simp [inW, sightN, offN, nA]
      omega
    have h1 : stakeB nS2 nA r [some 1, none] = decide (r = 5) := by
      rw [Bool.eq_iff_iff, stake_in, show nA.spot.toNat = 0 from rfl, s2_a1, decide_eq_true_eq]
      simp [inW, sightN, offN, nA]
      omega
    rw [s2_turns]
    unfold cntP
    rw [List.filter_cons, List.filter_cons, List.filter_nil, h0, h1]
    by_cases e : r = 1
    · subst e; decide
    · by_cases e5 : r = 5
      · subst e5; decide
      · simp [e, e5]
  · rw [s2_turns]
    decide +kernel
theorem s2_stake : stakeE nS2 [nB, nA] = 0 := by decide +kernel
theorem s2_bestE : bestE nS2 [nB, nA] = 0 := by unfold bestE; rw [if_pos s2_stake, s2_pos]
theorem s2_best : bestP nS2 [nB, nA] = (1, 1) := by
  unfold bestP
  rw [if_pos s2_bestE]
  have b1 : bestK nS2 [nB, nA] (0 + 1) = (0, 2) := by
    rw [bestK_succ (t := nB) rfl, if_pos (.inl rfl), s2_wB]
    rfl
  show bestK nS2 [nB, nA] (1 + 1) = _
  rw [bestK_succ (k := 1) (t := nA) rfl, s2_wA]
  rw [show bestK nS2 [nB, nA] 1 = (0, 2) from b1, if_pos (.inr (by decide))]
  rfl
theorem val_blame : blameE valS = 7 := by unfold blameE; rw [if_pos val_err, if_pos val_ok]
theorem val_best0 : bestE valS [] = 2 := by
  have h : stakeE valS [] = 2 := by decide +kernel
  unfold bestE
  rw [if_neg (by rw [h]; decide), h]
theorem val_best1 : bestE valS [nX] = 1 := by
  have h : stakeE valS [nX] = 1 := by decide +kernel
  unfold bestE
  rw [if_neg (by rw [h]; decide), h]
theorem s3_err : errN nS3 = 0 := by decide +kernel
theorem s3_bad : okS nS3 (freeL nS3) = false := by decide +kernel
theorem s3_blame : blameK nS3 2 = [] := by decide +kernel
theorem s3_blameE : blameE nS3 = 9 := by
  unfold blameE
  rw [if_pos s3_err, if_neg (by rw [s3_bad]; decide), show nS3.tools.length = 2 from rfl, s3_blame]
  rfl
theorem s4_err : errN nS4 = 3 := by decide +kernel
theorem s5_err : errN nS5 = 1 := by decide +kernel
theorem s0_err : errN nS0 = 1 := by decide +kernel
theorem l1_err : errN nL1 = 0 := by decide +kernel
theorem l1_sd : SdOk nL1 := err_iff.1 l1_err
theorem l1_cut {β : Type} (f : Int → List β) : (frtoL (downN (5 - readAt nL1 0 - offN nX nL1.day) nX.turn) (downN (5 - readAt nL1 0 + offN nX nL1.day) nX.turn)).flatMap f = f 1 := by
  rw [show frtoL (downN (5 - readAt nL1 0 - offN nX nL1.day) nX.turn) (downN (5 - readAt nL1 0 + offN nX nL1.day) nX.turn) = [1] by decide +kernel]
  simp
theorem l1_turns : (allT nL1).length = 50 := by
  show (outT nL1 3 0 [none, none, none]).length = _
  rw [outT, if_pos (show okS nL1 [none, none, none] = true by decide +kernel)]
  have h := out_cut (s := nL1) (r := 2) (tool := 0) (ks := [none, none, none]) (t := nX) (lo := 5) (hi := 5) (by decide) (l1_sd.toolIn) rfl rfl rfl (by decide) (by decide) (by decide +kernel) (by decide +kernel) (by decide +kernel) (by decide +kernel)
  show (if (4 : Int) = 0 then _ else kAll.flatMap fun k => outT nL1 2 1 ([none, none, none].set 0 (some k))).length = _
  rw [if_neg (by decide), h, l1_cut]
  show (outT nL1 2 1 [some 1, none, none]).length = _
  rw [outT, if_pos (show okS nL1 [some 1, none, none] = true by decide +kernel)]
  show (if (0 : Int) = 0 then outT nL1 1 2 [some 1, none, none] else _).length = _
  rw [if_pos rfl]
  rw [outT, if_pos (show okS nL1 [some 1, none, none] = true by decide +kernel)]
  have h2 := out_cut (s := nL1) (r := 0) (tool := 2) (ks := [some 1, none, none]) (t := nT) (lo := 5) (hi := 5) (by decide) (l1_sd.toolIn) rfl rfl rfl (by decide) (by decide) (by decide +kernel) (by decide +kernel) (by decide +kernel) (by decide +kernel)
  show (if (2 : Int) = 0 then _ else kAll.flatMap fun k => outT nL1 0 3 ([some 1, none, none].set 2 (some k))).length = _
  rw [if_neg (by decide), h2]
  kernel_rfl
theorem l1_pos : posE (allT nL1) = 0 := by
  have h := l1_turns
  unfold posE
  rw [if_neg (by omega), if_neg (fun e => by rw [e] at h; cases h)]
theorem l1_turnE : turnE nL1 = 0 := by unfold turnE; rw [if_pos l1_err, l1_pos]
theorem l1_turnL : (turnLs nL1).length = 50 := by unfold turnLs; rw [if_pos l1_turnE, List.length_map, l1_turns]
theorem l2_err : errN nL2 = 0 := by decide +kernel
theorem l2_sd : SdOk nL2 := err_iff.1 l2_err
theorem nodup_len {α : Type} [DecidableEq α] : ∀ (l m : List α), l.Nodup → (∀ x ∈ l, x ∈ m) → l.length ≤ m.length
  | [], _, _, _ => Nat.zero_le _
  | a :: l, m, hn, h => by
    obtain ⟨h1, h2⟩ := List.nodup_cons.1 hn
    have hm := h a (List.mem_cons_self ..)
    have h3 := nodup_len l (m.erase a) h2 (fun x hx => (List.mem_erase_of_ne (fun e => h1 (by rw [← e]; exact hx))).2 (h x (List.mem_cons_of_mem _ hx)))
    rw [List.length_erase_of_mem hm] at h3
    have h4 := List.length_pos_of_mem hm
    rw [List.length_cons]
    omega
/-- Some of the turns that are possible. -/
def nKs : List (List (Option Int)) := (List.range 2).flatMap fun a : Nat => (List.range 40).map fun b : Nat => [some 1, none, some ((a : Int)), some ((b : Int) - 20)]
theorem l2_have : nKs.all (fun ks => okS nL2 ks) = true := by decide +kernel
theorem l2_many : 60 < (allT nL2).length := by
  have h1 : nKs.length = 80 := by decide +kernel
  have h2 : nKs.Nodup := by decide +kernel
  have h3 : ∀ ks ∈ nKs, ks ∈ allT nL2 := fun ks hk => by
    have ho := List.all_eq_true.1 l2_have ks hk
    obtain ⟨a, ha, hk⟩ := List.mem_flatMap.1 hk
    obtain ⟨b, hb, rfl⟩ := List.mem_map.1 hk
    have ha := List.mem_range.1 ha
    have hb := List.mem_range.1 hb
    refine (mem_out0 l2_sd).2 ⟨rfl, fun j t ht => ?_, ho⟩
    match j, ht with
    | 0, ht => obtain rfl := Option.some.inj ht; exact ⟨1, rfl, by decide, by decide⟩
    | 1, ht => obtain rfl := Option.some.inj ht; rfl
    | 2, ht => obtain rfl := Option.some.inj ht; exact ⟨(a : Int), rfl, by omega, by omega⟩
    | 3, ht => obtain rfl := Option.some.inj ht; exact ⟨(b : Int) - 20, rfl, by omega, by omega⟩
    | j + 4, ht => exact absurd ht (by simp [nL2, valS])
  have h4 := nodup_len nKs _ h2 h3
  omega
theorem l2_pos : posE (allT nL2) = 3 := by unfold posE; rw [if_pos l2_many]
theorem l2_turnE : turnE nL2 = 3 := by unfold turnE; rw [if_pos l2_err, l2_pos]
theorem val_prove1 : proveB valS [(5, 5), (5, 6)] = true := by decide +kernel
theorem val_prove2 : proveB valS [(5, 4), (5, 6)] = false := by decide +kernel

end Go.Proofs.Ytpmafnifgegfbaa
