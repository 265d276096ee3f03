/- The works that are needed. -/
import Derived.Test.YtpnpnfjhjjdmgaaT
namespace Go.Proofs.Ytpnpnfjhjjdmgaa
open Go.RowKit Go.Deep

/-- Which of the first numbers are so. -/
def numK (f : Nat → Bool) : Nat → List Int
  | 0 => []
  | k + 1 => numK f k ++ (if f k then [(k : Int)] else [])
theorem numK_len (f : Nat → Bool) : ∀ k, (numK f k).length ≤ k
  | 0 => Nat.le_refl _
  | k + 1 => by
    have := numK_len f k
    simp only [numK, List.length_append]
    split <;> simp <;> omega
theorem numK_yes {f : Nat → Bool} {k : Nat} (h : f k = true) : numK f (k + 1) = numK f k ++ [(k : Int)] := by simp only [numK, h, if_true]
theorem numK_no {f : Nat → Bool} {k : Nat} (h : f k = false) : numK f (k + 1) = numK f k := by simp only [numK, h, Bool.false_eq_true, if_false, List.append_nil]
def needF (q : Pj) (i : Nat) : Bool := !(bestD true q (i : Int)).isSome
def needP (q : Pj) : List Int := if bestE q = 0 then numK (needF q) q.works.length else []
theorem bestE_zero {q : Pj} (h : bestE q = 0) : faultN q = 0 := by
  unfold bestE at h
  by_cases hf : faultN q = 0
  · exact hf
  · rw [if_neg hf] at h
    exact h
set_option maxRecDepth 100000 in
set_option maxHeartbeats 2000000 in
theorem needed_any (p : Pm) (w : World) (hok : PmOk p w) (few : PmFew p) (hpc : p.ps.length ≤ p.pc) :
    Calls Try.prog 33 #[pmV p] w fun e w' => (∃ A c, e = .returned (.tuple #[.slice A (needP p.pj).length c, vi (bestE p.pj)]) ∧ Row intL 1 w' w'.heap.size A (needP p.pj)) ∧ newer w w' := by
  have hnw := newer_allocH w (.cells (pmC p) 35)
  have HCK := Lib.hid (worksBest_any p _ (hok.next hnw) few hpc)
  have hbx := Whole.made w 35 (pmC p)
  have HB := Lib.hid (And.intro hnw hbx)
  have HOK := Lib.hid hok
  have x0 := hbx.at 0 (v := vi p.years) rfl
  have x1 := hbx.at 1 (v := vi p.slopes) rfl
  have x2 := hbx.at 2 (v := .slice p.wa p.ws.length p.wc) rfl
  have x3 := hbx.at 3 (v := .slice p.na p.ns.length p.nc) rfl
  have x4 := hbx.at 4 (v := .slice p.va p.vs.length p.vc) rfl
  have x5 := hbx.at 5 (v := .slice p.pa p.ps.length p.pc) rfl
  clear hnw hok hbx
  obtain ⟨er, her⟩ : ∃ er, er = bestE p.pj := ⟨_, rfl⟩
  have HER := Lib.hid her
  unfold needP
  rw [← her] at HCK ⊢
  clear her
  by_cases hf : er = 0
  · subst hf
    rw [if_pos rfl]
    have hp := fault_ok (bestE_zero HER.out.symm)
    have hwn := hp.wn
    have HP := Lib.hid hp
    have hwl : p.pj.works.length = p.ws.length := by simp [Pm.pj]
    rw [hwl]
    obtain ⟨q, hq⟩ : ∃ q, q = needF p.pj := ⟨_, rfl⟩
    rw [← hq]
    have HQ := Lib.hid hq
    obtain ⟨i0, hi0, hz0, hz1, hz2⟩ := info_parts Try.info3w
    have HI := Lib.hid (And.intro hi0 (And.intro hz0 (And.intro hz1 hz2)))
    clear hp hwl hq hi0 hz0 hz1 hz2 few
    go_enter Try.func33, Try.ntmps33
    go_wp2_with fail
    refine (HCK.out).mono ?_
    rintro e w1 ⟨⟨v, rfl, hv⟩, hb⟩
    have HX := Lib.hid (And.intro (newer_trans HB.out.1 hb) (HB.out.2.below hb HB.out.2.lt))
    clear hb hv HB HCK x0 x1 x2 x3 x4 x5
    have x2 := HX.out.2.at 2 (v := .slice p.wa p.ws.length p.wc) rfl
    go_wp2_with fail
    clear x2
    go_loopw [7, 24] (fun s7 s24 wr => ∃ k : Nat, k ≤ p.ws.length ∧ s24 = .int .i64 k ∧ newer w wr ∧ Whole wr w.heap.size 35 (pmC p) ∧ wr.ownsRow w.heap.size 3 1 s7 (numK q k).length ((numK q k).flatMap intL)) (fun _ s24 _ => p.ws.length - (intOf s24).toNat)
    case atStart => exact ⟨0, Nat.zero_le _, rfl, HX.out.1, HX.out.2, by simp [numK], .inl ⟨rfl, rfl⟩⟩
    case round =>
      obtain ⟨k, hk, rfl, hbw, hbx, hown⟩ := hrel
      clear HX
      by_cases hlt : k < p.ws.length
      · have hkn : (k : Int) < p.ws.length := by omega
        have x0 := hbx.at 0 (v := vi p.years) rfl
        have x1 := hbx.at 1 (v := vi p.slopes) rfl
        have x2 := hbx.at 2 (v := .slice p.wa p.ws.length p.wc) rfl
        have x3 := hbx.at 3 (v := .slice p.na p.ns.length p.nc) rfl
        have x4 := hbx.at 4 (v := .slice p.va p.vs.length p.vc) rfl
        have x5 := hbx.at 5 (v := .slice p.pa p.ps.length p.pc) rfl
        have HBW := Lib.hid (And.intro hbw (And.intro hbx hown))
        have HPL := Lib.hid (plans_any p (k : Int) wr)
        have hqn : q k = !(bestD true p.pj (k : Int)).isSome := by rw [HQ.out]; rfl
        obtain ⟨bo, hbo⟩ : ∃ bo, bo = bestD true p.pj (k : Int) := ⟨_, rfl⟩
        rw [← hbo] at hqn
        have HBO := Lib.hid (And.intro hbo hqn)
        clear hbw hbx hown hbo hqn
        go_wp2_with fail
        refine (HPL.out).mono ?_
        rintro e w2 ⟨qb, mb, rfl, hn, hq, hm, h1, h2, h3⟩
        have HT := Lib.hid (tried_any p (k : Int) true wr (HOK.out.next HBW.out.1) HP.out hpc qb mb w2 hn hq hm h1 h2 h3)
        rw [← HBO.out.1] at HT
        clear hn hq hm h1 h2 h3 HPL
        go_wp2_with fail
        refine (HT.out).mono ?_
        rintro e w3 ⟨⟨v, rfl, -⟩, hn⟩
        have HF := Lib.hid (And.intro (newer_trans HBW.out.1 hn) (And.intro (HBW.out.2.1.below hn HBW.out.2.1.lt) (own_below HBW.out.2.2 hn)))
        clear hn HT HBW x0 x1 x2 x3 x4 x5
        have hml := numK_len q k
        cases hbs : bo.isSome with
        | false =>
          have HY := Lib.hid (numK_yes (f := q) (by rw [HBO.out.2, hbs]; rfl))
          have HO := Lib.hid (own_below HF.out.2.2 (newer_allocH w3 (.cells #[vi k] 3)))
          have HN := Lib.hid (newer_trans HF.out.1 (newer_allocH w3 (.cells #[vi k] 3)))
          have HBX := Lib.hid (HF.out.2.1.alloc (.cells #[vi k] 3))
          have HNW := Lib.hid (World.news_of_block (Whole.made w3 3 #[vi k]))
          have hbz := HF.out.1.size
          have hsv := HF.out.2.2
          obtain ⟨hi0, hz0, hz1, hz2⟩ := HI.out
          clear HF hsv
          go_wp2_with (at_builtin; go_loud ((refine wpList_append_lies _ rfl (.tmp 37) (.tmp 39) 25 rfl w.heap.size 3 i0 (.int .i64 0) 1 8 Try.underlying25 hi0 hz0 hz1 hz2 rfl (by omega) _ (numK q k).length _ rfl HO.out ⟨w3.heap.size, 0, none⟩ 1 1 [vi k] rfl rfl HNW.out (by simp [Value.oneCell']) (by omega) (by unfold maxLen; omega) (by omega) (by simp; omega) (w3.heap.size + 1) (by simp) ?_); intro gg cp2 w4 hown2 hgrow2 hat2 hlt2; have HG := Lib.hid (And.intro hown2 (And.intro (HN.out.grown hgrow2 HN.out.size (own_ge HO.out)) (HBX.out.grown hgrow2 (own_ne HO.out HBX.out (by decide)).symm))); clear hown2 hgrow2 hat2 hlt2 hi0 hz0 hz1 hz2 hbz))
          go_roundw
          case rel =>
            refine ⟨k + 1, by omega, by go_num, HG.out.2.1, HG.out.2.2, ?_⟩
            rw [HY.out, List.length_append, List.flatMap_append]
            exact HG.out.1
          case measure => simp [intOf]; omega
        | true =>
          have HY := Lib.hid (numK_no (f := q) (by rw [HBO.out.2, hbs]; rfl))
          go_wp2_with fail
          go_roundw
          case rel => exact ⟨k + 1, by omega, by go_num, HF.out.1, HF.out.2.1, by rw [HY.out]; exact HF.out.2.2⟩
          case measure => simp [intOf]; omega
      · obtain rfl : k = p.ws.length := by omega
        have hkn : ¬ ((p.ws.length : Int) < p.ws.length) := by omega
        obtain ⟨A2, c2, rfl⟩ := own_form hown
        have HF := Lib.hid (And.intro hbw hown)
        clear hbw hown hbx
        go_wp2_with fail
        exact bodyPost_ret (v := .tuple #[.slice A2 (numK q p.ws.length).length c2, vi 0]) (by simp [results, Try.results33, go_sem]) rfl ⟨⟨A2, ⟨c2, rfl⟩, row_of_own (by omega) (fun _ => rfl) HF.out.2⟩, HF.out.1⟩
  · rw [if_neg hf]
    have hfb : (er != 0) = true := by simpa using hf
    clear hf few
    go_enter Try.func33, Try.ntmps33
    go_wp2_with fail
    refine (HCK.out).mono ?_
    rintro e w1 ⟨⟨v, rfl, hv⟩, hb⟩
    have HN := Lib.hid (newer_trans HB.out.1 hb)
    clear hb hv
    go_wp2_with fail
    exact bodyPost_ret (v := .tuple #[.slice none 0 0, vi er]) (by simp [results, Try.results33, go_sem]) rfl ⟨⟨none, 0, rfl, Row.nil _⟩, HN.out⟩
end Go.Proofs.Ytpnpnfjhjjdmgaa
