/- The reference of the water layer: which ground, and which ground with days, is valid. -/
import Derived.Test.YteonkhohloabfaaC
namespace Go.Proofs.Yteonkhohloabfaa
open Go.RowKit

def okTo (l : List Cell) (k : Nat) : Prop := ∀ (j : Nat) (c : Cell), j < k → l[j]? = some c → cellB l.length c = true ∧ c.to ≠ (j : Int)
theorem okTo_zero (l : List Cell) : okTo l 0 := fun _ _ h => by omega
theorem okTo_succ {l : List Cell} {k : Nat} {c : Cell} (h : okTo l k) (hk : l[k]? = some c) (hc : cellB l.length c = true) (hs : c.to ≠ (k : Int)) : okTo l (k + 1) := fun j x hj hx => by
  rcases Nat.lt_or_ge j k with h1 | h1
  · exact h j x h1 hx
  · obtain rfl : j = k := by omega
    rw [hk] at hx; cases hx; exact ⟨hc, hs⟩
theorem okTo_all {l : List Cell} (h : okTo l l.length) : (l.all (cellB l.length) && noSelf l 0) = true := by
  rw [Bool.and_eq_true]
  refine ⟨?_, selfFree_all fun j c hj hc => (h j c hj hc).2⟩
  rw [List.all_eq_true]
  intro x hx
  obtain ⟨j, hj, rfl⟩ := List.mem_iff_getElem.1 hx
  exact (h j _ hj (List.getElem?_eq_getElem hj)).1
theorem okTo_bad {l : List Cell} {k : Nat} {c : Cell} (hk : l[k]? = some c) (h : cellB l.length c = false ∨ c.to = (k : Int)) : (l.all (cellB l.length) && noSelf l 0) = false := by
  rw [Bool.and_eq_false_iff]
  rcases h with h | h
  · left
    rw [List.all_eq_false]
    exact ⟨c, List.mem_of_getElem? hk, by simp [h]⟩
  · right
    exact noSelf_false l k c hk h
/-- All of a ground but its cells. -/
def headB (n : Nat) (slo shi klo khi melt : Int) : Bool := inB n 1 8 && upB slo shi 100000 && upB klo khi 1000 && inB melt 0 50
theorem gndB_head (l : List Cell) (slo shi klo khi melt : Int) : gndB ⟨l, slo, shi, klo, khi, melt⟩ = (headB l.length slo shi klo khi melt && (l.all (cellB l.length) && noSelf l 0)) := by
  simp only [gndB, headB]
  cases inB (l.length : Int) 1 8 <;> cases l.all (cellB l.length) <;> cases upB slo shi 100000 <;> cases upB klo khi 1000 <;> cases inB melt 0 50 <;> cases noSelf l 0 <;> rfl

set_option maxRecDepth 100000 in
set_option maxHeartbeats 2000000 in
theorem rightGround_any (g : Gnd) (cp : Nat) (A : Option Addr) (w : World) (hn : g.cells.length ≤ 1000) (hrow : Row cellL 7 w w.heap.size A g.cells) :
    Calls Try.prog 34 #[gndV A cp g] w fun e w' => e = .returned (.bool (gndB g)) ∧ Below w.heap.size w w' := by
  obtain ⟨l, slo, shi, klo, khi, melt⟩ := g
  rw [gndB_head]
  unfold gndV
  dsimp only at hn hrow ⊢
  obtain ⟨n, hnl⟩ : ∃ n, n = l.length := ⟨_, rfl⟩
  obtain ⟨t, ht⟩ : ∃ t, t = (l.all (cellB l.length) && noSelf l 0) := ⟨_, rfl⟩
  rw [← ht]
  have HT := Lib.hid ht
  clear ht
  rw [← hnl] at hn ⊢
  have HN := Lib.hid hnl
  clear hnl
  unfold headB
  cases h1 : inB (n : Int) 1 8
  case' true => cases h2 : upB slo shi 100000
  case' true.true => cases h3 : upB klo khi 1000
  case' true.true.true => cases h4 : inB melt 0 50
  case true.true.true.true =>
    go_enter Try.func34, Try.ntmps34
    go_wp2_with (first | (go_at_call 27; refine (in_any _ _ _ _).mono ?_; rintro e w' ⟨rfl, rfl⟩) | (go_at_call 70; refine (upTo_any _ _ _ _).mono ?_; rintro e w' ⟨rfl, rfl⟩))
    have hB0 := (((Below.refl w.heap.size w).alloc (Nat.le_refl _) (.cells #[.slice A n cp, .int .i64 slo, .int .i64 shi, .int .i64 klo, .int .i64 khi, .int .i64 melt] 26)).alloc (by simp) (.cells #[.int .i64 slo, .int .i64 shi] 24)).alloc (by simp; omega) (.cells #[.int .i64 klo, .int .i64 khi] 24)
    have HB0 := Lib.hid hB0
    clear hB0
    go_loopw [4] (fun i wr => ∃ k : Nat, k ≤ n ∧ i = .int .i64 k ∧ Below w.heap.size w wr ∧ wr.cell? ⟨w.heap.size, 0, none⟩ = some (.slice A n cp) ∧ w.heap.size < wr.heap.size ∧ okTo l k) (fun i _ => n - (intOf i).toNat)
    case atStart =>
      refine ⟨0, Nat.zero_le _, rfl, HB0.out, ?_, ?_, okTo_zero _⟩
      · rw [World.cell?_alloc_lt _ _ _ (by simp; omega), World.cell?_alloc_lt _ _ _ (by simp)]; simp
      · simp only [World.size_alloc]; omega
    case round =>
      obtain ⟨k, hk, rfl, hbw, hcell, hsz, he⟩ := hrel
      have HE := Lib.hid he
      clear he
      by_cases hlt : k < n
      · obtain ⟨c, hc⟩ := get_of_lt (l := l) (k := k) (by have := HN.out; omega)
        obtain ⟨b, off, rfl, hb, h0, h1, h2, h3, h4, h5, h6⟩ := row7 (hrow.below hbw) hc
        have HC := Lib.hid hc
        have hbn : b ≠ w.heap.size := by omega
        clear hc
        have hok : cellB n c = (inB c.cap 1 100000 && upB c.lo c.hi c.cap && inB c.keep 0 c.cap && inB c.pass 0 1000 && inB c.to (-1) ((n : Int) - 1) && inB c.pump 0 100000) := rfl
        have HK := Lib.hid hok
        clear hok
        cases q1 : inB c.cap 1 100000
        case' true => cases q2 : upB c.lo c.hi c.cap
        case' true.true => cases q3 : inB c.keep 0 c.cap
        case' true.true.true => cases q4 : inB c.pass 0 1000
        case' true.true.true.true => cases q5 : inB c.to (-1) ((n : Int) - 1)
        case' true.true.true.true.true => cases q6 : (c.to == (k : Int))
        case' true.true.true.true.true.false => cases q7 : inB c.pump 0 100000
        case true.true.true.true.true.false.true =>
          have hgood : cellB n c = true := by rw [HK.out, q1, q2, q3, q4, q5, q7]; rfl
          have hne : c.to ≠ (k : Int) := by simpa using q6
          have hst : okTo l (k + 1) := okTo_succ HE.out HC.out (HN.out ▸ hgood) hne
          have HS := Lib.hid hst
          clear hgood hne hst
          go_wp2_with (first | (go_at_call 27; refine (in_any _ _ _ _).mono ?_; rintro e w' ⟨rfl, rfl⟩) | (go_at_call 70; refine (upTo_any _ _ _ _).mono ?_; rintro e w' ⟨rfl, rfl⟩))
          go_roundw
          case rel => exact ⟨k + 1, by omega, by go_num, (hbw.alloc hbw.size _).alloc (by simp; omega) _, by rw [World.cell?_alloc_lt _ _ _ (by simp; omega), World.cell?_alloc_lt _ _ _ hsz]; exact hcell, by simp; omega, HS.out⟩
          case measure => simp [intOf]; omega
        all_goals
          have hbad : t = false := by
            rw [HT.out]
            refine okTo_bad HC.out ?_
            rw [← HN.out, HK.out]
            simp_all
          have HB := Lib.hid hbad
          clear hbad
          go_wp2_with (first | (go_at_call 27; refine (in_any _ _ _ _).mono ?_; rintro e w' ⟨rfl, rfl⟩) | (go_at_call 70; refine (upTo_any _ _ _ _).mono ?_; rintro e w' ⟨rfl, rfl⟩))
          go_ret
          refine ⟨by rw [HB.out]; rfl, ?_⟩
          first | exact hbw.alloc hbw.size _ | exact (hbw.alloc hbw.size _).alloc (by simp; omega) _
      · go_wp2_with fail
        go_ret
        have hkn : k = l.length := by have := HN.out; omega
        exact ⟨by rw [HT.out, okTo_all (hkn ▸ HE.out)]; rfl, hbw⟩
  all_goals
    (go_enter Try.func34, Try.ntmps34
     go_wp2_with (first | (go_at_call 27; refine (in_any _ _ _ _).mono ?_; rintro e w' ⟨rfl, rfl⟩) | (go_at_call 70; refine (upTo_any _ _ _ _).mono ?_; rintro e w' ⟨rfl, rfl⟩))
     go_ret
     refine ⟨by simp, ?_⟩
     first
       | exact (Below.refl _ _).alloc (Nat.le_refl _) _
       | exact ((Below.refl _ _).alloc (Nat.le_refl _) _).alloc (by simp) _
       | exact (((Below.refl _ _).alloc (Nat.le_refl _) _).alloc (by simp) _).alloc (by simp; omega) _)

def dayTo (l : List Day) (k : Nat) : Prop := ∀ (j : Nat) (d : Day), j < k → l[j]? = some d → dayB d = true
theorem dayTo_zero (l : List Day) : dayTo l 0 := fun _ _ h => by omega
theorem dayTo_succ {l : List Day} {k : Nat} {d : Day} (h : dayTo l k) (hk : l[k]? = some d) (hc : dayB d = true) : dayTo l (k + 1) := fun j x hj hx => by
  rcases Nat.lt_or_ge j k with h1 | h1
  · exact h j x h1 hx
  · obtain rfl : j = k := by omega
    rw [hk] at hx; cases hx; exact hc
theorem dayTo_all {l : List Day} (h : dayTo l l.length) : l.all dayB = true := by
  rw [List.all_eq_true]
  intro x hx
  obtain ⟨j, hj, rfl⟩ := List.mem_iff_getElem.1 hx
  exact h j _ hj (List.getElem?_eq_getElem hj)
theorem dayTo_bad {l : List Day} {k : Nat} {d : Day} (hk : l[k]? = some d) (h : dayB d = false) : l.all dayB = false := by
  rw [List.all_eq_false]
  exact ⟨d, List.mem_of_getElem? hk, by simp [h]⟩

set_option maxRecDepth 100000 in
set_option maxHeartbeats 2000000 in
theorem refFault_any (g : Gnd) (cp : Nat) (A : Option Addr) (days : List Day) (dp : Nat) (D : Option Addr) (w : World) (hn : g.cells.length ≤ 1000) (hm : days.length ≤ 1000)
    (hrow : Row cellL 7 w w.heap.size A g.cells) (hday : Row dayL 3 w w.heap.size D days) :
    Calls Try.prog 58 #[gndV A cp g, .slice D days.length dp] w fun e w' => e = .returned (.int .i64 (faultN g days)) ∧ Below w.heap.size w w' := by
  have hck : ∀ o, Calls Try.prog 34 #[gndV A cp g] (w.alloc o) fun e w' => e = .returned (.bool (gndB g)) ∧ Below (w.alloc o).heap.size (w.alloc o) w' := fun o =>
    rightGround_any g cp A _ hn ((hrow.below ((Below.refl _ _).alloc (Nat.le_refl _) o)).more (by simp))
  have HK := Lib.hid hck
  clear hck
  rw [show faultN g days = if gndB g = true then (if days.length > 30 then 3 else errB (days.all dayB)) else 1 from rfl]
  obtain ⟨t, ht⟩ : ∃ t, t = days.all dayB := ⟨_, rfl⟩
  rw [← ht]
  have HT := Lib.hid ht
  clear ht
  obtain ⟨m, hmm⟩ : ∃ m, m = days.length := ⟨_, rfl⟩
  rw [← hmm] at hm ⊢
  have HM := Lib.hid hmm
  clear hmm
  cases hg : gndB g
  case' true => by_cases h2 : m > 30
  case neg =>
    rw [hg] at HK
    rw [if_neg h2]
    clear hg
    simp only [if_true]
    go_enter Try.func58, Try.ntmps58
    go_wp2_with (go_at_call 34; refine (HK.out _).mono ?_; rintro e w1 ⟨rfl, hb⟩; have hb1 := below_step ((Below.refl w.heap.size w).alloc (Nat.le_refl _) _) hb (by simp))
    go_loopw [5] (fun i wr => ∃ k : Nat, k ≤ m ∧ i = .int .i64 k ∧ Below w.heap.size w wr ∧ dayTo days k) (fun i _ => m - (intOf i).toNat)
    case atStart => exact ⟨0, Nat.zero_le _, rfl, hb1, dayTo_zero _⟩
    case round =>
      obtain ⟨k, hk, rfl, hbw, he⟩ := hrel
      have HE := Lib.hid he
      clear he
      by_cases hlt : k < m
      · obtain ⟨d, hd⟩ := get_of_lt (l := days) (k := k) (by have := HM.out; omega)
        obtain ⟨b, off, rfl, hbb, h0, h1, h2⟩ := row3 (hday.below hbw) hd
        have HC := Lib.hid hd
        have hok : dayB d = (upB d.lo d.hi 1000 && inB d.warm (-50) 50) := rfl
        have HB := Lib.hid hok
        have hw0 : ∀ o, (wr.alloc o).cell? ⟨b, off + k * 3 + 2, none⟩ = some (.int .i64 d.warm) := fun o => cell_alloc h2 o
        clear hd hok
        cases q1 : upB d.lo d.hi 1000
        case' true => cases q2 : inB d.warm (-50) 50
        case true.true =>
          have hst : dayTo days (k + 1) := dayTo_succ HE.out HC.out (by rw [HB.out, q1, q2]; rfl)
          have HS := Lib.hid hst
          clear hst
          go_wp2_with (first | (go_at_call 27; refine (in_any _ _ _ _).mono ?_; rintro e w' ⟨rfl, rfl⟩) | (go_at_call 70; refine (upTo_any _ _ _ _).mono ?_; rintro e w' ⟨rfl, rfl⟩))
          go_roundw
          case rel => exact ⟨k + 1, by omega, by go_num, hbw.alloc hbw.size _, HS.out⟩
          case measure => simp [intOf]; omega
        all_goals
          have hbad : t = false := by
            rw [HT.out]
            refine dayTo_bad HC.out ?_
            rw [HB.out]
            simp_all
          have HX := Lib.hid hbad
          clear hbad
          go_wp2_with (first | (go_at_call 27; refine (in_any _ _ _ _).mono ?_; rintro e w' ⟨rfl, rfl⟩) | (go_at_call 70; refine (upTo_any _ _ _ _).mono ?_; rintro e w' ⟨rfl, rfl⟩))
          go_ret
          exact ⟨by rw [HX.out]; rfl, hbw.alloc hbw.size _⟩
      · go_wp2_with fail
        go_ret
        have hkm : k = days.length := by have := HM.out; omega
        exact ⟨by rw [HT.out, dayTo_all (hkm ▸ HE.out)]; rfl, hbw⟩
  case pos =>
    rw [hg] at HK
    rw [if_pos h2]
    clear hg
    simp only [if_true]
    go_enter Try.func58, Try.ntmps58
    go_wp2_with (go_at_call 34; refine (HK.out _).mono ?_; rintro e w1 ⟨rfl, hb⟩; have hb1 := below_step ((Below.refl w.heap.size w).alloc (Nat.le_refl _) _) hb (by simp))
    go_ret
    exact ⟨rfl, hb1⟩
  case false =>
    rw [hg] at HK
    clear hg
    go_enter Try.func58, Try.ntmps58
    go_wp2_with (go_at_call 34; refine (HK.out _).mono ?_; rintro e w1 ⟨rfl, hb⟩; have hb1 := below_step ((Below.refl w.heap.size w).alloc (Nat.le_refl _) _) hb (by simp))
    go_ret
    exact ⟨rfl, hb1⟩

/-! ## The law's own: fault, Thin, ready -/
set_option maxHeartbeats 400000 in
theorem fault_any (g : Gnd) (cp : Nat) (A : Option Addr) (days : List Day) (dp : Nat) (D : Option Addr) (w : World) (hn : g.cells.length ≤ 1000) (hm : days.length ≤ 1000)
    (hrow : Row cellL 7 w w.heap.size A g.cells) (hday : Row dayL 3 w w.heap.size D days) :
    Calls Try.prog 21 #[gndV A cp g, .slice D days.length dp] w fun e w' => e = .returned (.int .i64 (faultN g days)) ∧ Below w.heap.size w w' := by
  have hck : ∀ o, Calls Try.prog 58 #[gndV A cp g, .slice D days.length dp] (w.alloc o) fun e w' => e = .returned (.int .i64 (faultN g days)) ∧ Below (w.alloc o).heap.size (w.alloc o) w' := fun o =>
    refFault_any g cp A days dp D _ hn hm ((hrow.below ((Below.refl _ _).alloc (Nat.le_refl _) o)).more (by simp)) ((hday.below ((Below.refl _ _).alloc (Nat.le_refl _) o)).more (by simp))
  have HK := Lib.hid hck
  clear hck
  go_enter Try.func21, Try.ntmps21
  go_wp2_with (go_at_call 58; refine (HK.out _).mono ?_; rintro e w1 ⟨rfl, hb⟩; have hb1 := below_step ((Below.refl w.heap.size w).alloc (Nat.le_refl _) _) hb (by simp))
  go_ret
  exact ⟨rfl, hb1⟩

def thinB (n m : Nat) : Bool := decide (n ≤ 10) && decide (m ≤ 35)
set_option maxHeartbeats 400000 in
theorem thin_any (g : Gnd) (cp : Nat) (A : Option Addr) (m dp : Nat) (D : Option Addr) (w : World) :
    Calls Try.prog 16 #[gndV A cp g, .slice D m dp] w fun e w' => e = .returned (.bool (thinB g.cells.length m)) ∧ Below w.heap.size w w' := by
  unfold thinB
  by_cases h1 : g.cells.length ≤ 10 <;> by_cases h2 : m ≤ 35 <;>
  (go_enter Try.func16, Try.ntmps16
   go_wp2
   go_ret
   exact ⟨by first | (simp [h1, h2]; done) | (simp [h1, h2]; omega), (Below.refl _ _).alloc (Nat.le_refl _) _⟩)

def readyB (g : Gnd) (days : List Day) : Bool := thinB g.cells.length days.length && (faultN g days == 0)
set_option maxHeartbeats 400000 in
theorem ready_any (g : Gnd) (cp : Nat) (A : Option Addr) (days : List Day) (dp : Nat) (D : Option Addr) (w : World)
    (hrow : Row cellL 7 w w.heap.size A g.cells) (hday : Row dayL 3 w w.heap.size D days) :
    Calls Try.prog 28 #[gndV A cp g, .slice D days.length dp] w fun e w' => e = .returned (.bool (readyB g days)) ∧ Below w.heap.size w w' := by
  unfold readyB
  cases ht : thinB g.cells.length days.length
  · go_enter Try.func28, Try.ntmps28
    go_wp2_with (go_at_call 16; refine (thin_any g cp A days.length dp D _).mono ?_; rintro e w1 ⟨rfl, hb⟩; have hb1 := below_step ((Below.refl w.heap.size w).alloc (Nat.le_refl _) _) hb (by simp))
    go_ret
    exact ⟨rfl, hb1⟩
  · have hsz : g.cells.length ≤ 10 ∧ days.length ≤ 35 := by simpa [thinB] using ht
    have hck : ∀ W, Below w.heap.size w W → Calls Try.prog 21 #[gndV A cp g, .slice D days.length dp] W fun e w' => e = .returned (.int .i64 (faultN g days)) ∧ Below W.heap.size W w' := fun W hW =>
      fault_any g cp A days dp D _ (by omega) (by omega) ((hrow.below hW).more hW.size) ((hday.below hW).more hW.size)
    have HK := Lib.hid hck
    clear hck
    cases hf : (faultN g days == 0)
    all_goals
      (go_enter Try.func28, Try.ntmps28
       go_wp2_with (first | (go_at_call 16; refine (thin_any g cp A days.length dp D _).mono ?_; rintro e w1 ⟨rfl, hb⟩; have hb1 := below_step ((Below.refl w.heap.size w).alloc (Nat.le_refl _) _) hb (by simp); obtain ⟨hc, hfr⟩ := bcell hb; have hz : w.heap.size < w1.heap.size := by { have := hb.size; simp at this; omega }) | (go_at_call 21; refine (HK.out _ hb1).mono ?_; rintro e w2 ⟨rfl, hb2⟩))
       go_ret
       exact ⟨rfl, below_next hb1 hb2⟩)
end Go.Proofs.Yteonkhohloabfaa
